/- By a program of mine (gen.py): for each function a plain function and the proof that the code computes it. -/
import Derived.Test.YtmemiabhkcdgcaaGreatDoorI2
import Derived.Test.YtmemiabhkcdgcaaGreatDoorFw38
import Derived.Test.YtmemiabhkcdgcaaGreatDoorA2
import Derived.Lib.AppendZerosOnto
import Derived.Lib.Overlaps
import Derived.Laws.IdiomCopy
import Derived.Laws.Externs
import Derived.Test.YtmemiabhkcdgcaaGreatDoorG1
import Derived.Lib.SliceRun
import Derived.Test.YtmemiabhkcdgcaaGreatDoorFw29
open Option renaming bind_some → je, map_some → jW
open Nat renaming le_refl → jf, le_of_ble_eq_true → js, mul_le_mul_right → jx, lt_of_lt_of_le → jy, zero_le → jz, succ_mul → jQ, le_trans → jS, add_zero → Jc, zero_add → Jj
open Bool renaming and_eq_true → jg, eq_iff_iff → jm, true_and → jJ, not_eq_true' → jO, and_assoc → Ji, not_true → Jk, false_or → Jl
open Go.Result renaming andThen_ok → jh
open List renaming getElem?_eq_getElem → ji, length_append → jj, length_singleton → jk, mem_cons_of_mem → jo, getElem_mem → jp, mem_cons_self → jq, take_succ_eq_append_getElem → jr, getElem?_take → jt, getElem?_append_left → ju, mem_of_getElem? → jw, getElem?_drop → jA, take_length → jB, getElem?_append_right → jD, drop_eq_getElem_cons → jE, eq_nil_of_length_eq_zero → jF, not_mem_nil → jG, length_map → jH, getElem?_toArray → jI, getD_eq_getElem?_getD → jK, mem_append_left → jL, getElem_of_mem → jM, mem_cons → jN, getElem?_cons_succ → jP, mem_append_right → jR, append_nil → jT, size_toArray → jV, map_append → jX, range_succ → jY, length_take → jZ, length_filter_le → Ja, map_cons → Jb, drop_eq_nil_of_le → Jd, all_eq_true → Je, length_cons → Jf, append_assoc → Jg, ext_getElem → Jh
open Go.Sem renaming run_bind → jl, run_pure → jn
open Int renaming toNat_natCast → jC
open Array renaming getElem?_append_left → jU

namespace Go.Fw
open Go Go.Proofs
open Go.RowKit (Below)
set_option maxRecDepth 100000
set_option maxHeartbeats 6400000
variable {n:Nat} {w:World} {cs1 cs2 cs3 cs4 cs5 cs6 cs7 cs8 cs9:List Value}
def qes (b:qd) (list:(List qa)):Nat→Int→Option (Flow Int Int)
 | 0,_=>none
 | n+1,i1 =>
  bif decide (i1<(list.length:Int)) then
   (idx list i1).bind fun y1 =>
   (qgi n b y1).bind fun r2 =>
   bif (!r2) then some (.ret 5) else
   qes b list n (W64 (i1+1))
  else
   some (.nxt i1)
def qhb (n:Nat) (b:qd) (list:(List qa)):Option Int :=
 (qeu n b).bind fun r1 =>
 bif (!r1) then some 1 else
 bif decide ((list.length:Int) > 6) then some 3 else
 (qes b list n 0).bind fun o=>match o with
 | .ret r=>some r
 | .nxt _ =>
  some 0
theorem qj1 {b:qd} {list:(List qa)} (ha1:GoT.R w (old w) b cs1) (ha2:GoT.R w (old w) list cs2) {r:Int} (hF:qhb n b list=some r):RetV Tryz.prog 34 [GoT.v qd cs1,GoT.v (List qa) cs2] w r:=by
 obtain ⟨p1,k1,p2,k2,p3,k3,p4,k4,p5,k5,rfl,s1,s2,s3,s4,s5⟩:=qD ha1
 obtain ⟨p6,k6,rfl,s6⟩:=ha2
 refine zV 25 Tryz.func34 rfl fun h=>zSR (qO h rfl rfl fun w1 bb1 h=>X1 6 0 h rfl (zcB h hF (qfy (h.old ha1)) rfl fun r1 w2 h hF=>X0 2 rfl (qk rfl hF ?_ ?_)))<;>intro hF
 ·exact X0 4 rfl (ri h hF rfl)
 refine X0 8 rfl (qk rfl hF ?_ ?_)<;>intro hF
 ·exact X0 4 rfl (ri h hF rfl)
 refine X0 6 rfl ?_
 obtain ⟨o1,hF,hK1⟩:=qe hF
 refine ql (rL (fun m e w'=>∃ (i1:Int),qes b list m i1=some o1∧e=[(1,.slice p6 list.length k6),(2,.pointer (some ⟨bb1,0,none⟩)),(5,.int .i64 i1)]∧SH w w' [Ch.box bb1 (qA b p1 p2 p3 p4 p5 k1 k2 k3 k4 k5) 34]) n ⟨_,hF,rfl,h⟩ rfl ?_)
 rintro m1 e1 w3 ⟨i1,hF,rfl,h⟩
 rcases m1 with _|m1
 ·cases hF
 refine X0 8 rfl (qk rfl hF ?_ ?_)<;>intro hF
 ·refine X0 4 rfl (rD (Y1 1 0 h rfl ?_))
  refine zd2 rfl ?_
  obtain ⟨y1,hy1,hF,he1,b1,_,q1,cs3,hp1,hq1,hr2,hc4⟩:=s6.ix hF
  obtain ⟨p7,k7,p8,k8,p9,k9,rfl,s7,s8,s9⟩:=qJ hr2
  refine zdxe hp1 hq1 he1 rfl (zdc 0 (hc4.below h.below) rfl ?_)
  obtain ⟨r2,hr3,hF⟩:=qe hF
  refine qc7 r2 (vsB _) (cB 87 rfl) (fun _ hb=>qk3 ((h.ext hb).old ha1) (qcs y1 ((h.ext hb).oldS s7) ((h.ext hb).oldS s8) ((h.ext hb).oldS s9)) hr3) rfl rfl rfl rfl (zd1 rfl (dN h fun w4 h=>qk rfl hF ?_ ?_))<;>intro hF
  ·refine X0 4 rfl ?_
   obtain rfl:=qc hF;replace hF:=hK1
   exact ri h hF rfl
  exact X0 7 rfl (rK ⟨_,hF,rfl,h⟩ rfl)
 refine qp rfl ?_
 obtain rfl:=qc hF;replace hF:=hK1
 exact X0 4 rfl (ri h hF rfl)
def qcH (list:(List qa)) (tag:(List Int)) (place:Int):Nat→(List Int)→Int→Option ((List Int) × Int)
 | 0,_,_=>none
 | n+1,x1,i1 =>
  bif decide (i1<(list.length:Int)) then
   (idx tag i1).bind fun y1 =>
   (
    bif decide (y1 ≥ 0) then
     (idx list i1).bind fun y2 =>
     bif decide (y1<(y2.Am.length:Int)) then
      (idx list i1).bind fun y3 =>
      (idx y3.Am y1).bind fun y4 =>
      some (y4==place)
     else
      some false
    else
     some false).bind fun b2 =>
   bif b2 then
    (appS x1 ([W64 (y1+1)]:List Int)).bind fun x2 =>
    qcH list tag place n x2 (W64 (i1+1))
   else
    (appS x1 ([y1]:List Int)).bind fun x3 =>
    qcH list tag place n x3 (W64 (i1+1))
  else
   some (x1,i1)
def qgf (n:Nat) (list:(List qa)) (tag:(List Int)) (place:Int):Option (List Int) :=
 (qcH list tag place n ([]:List Int) 0).bind fun o=>match o with
 | (x1,_) =>
  some x1
theorem qh8 {list:(List qa)} {tag:(List Int)} {place:Int} (ha1:GoT.R w (old w) list cs1) (ha2:GoT.R w (old w) tag cs2) {r:(List Int)} (hF:qgf n list tag place=some r):RetV Tryz.prog 37 [GoT.v (List qa) cs1,GoT.v (List Int) cs2,.int .i64 place] w r:=by
 obtain ⟨p1,k1,rfl,s1⟩:=ha1
 obtain ⟨p2,k2,rfl,s2⟩:=ha2
 refine zV 52 Tryz.func37 rfl fun h=>X0 6 rfl (qm qb [] _ ([]:List Int) h rfl rfl rfl rfl rfl rfl rfl rfl rfl trivial rfl fun w1 p3 S1 h=>X0 7 rfl ?_)
 obtain ⟨o1,hF,hK1⟩:=qe hF
 refine ql (rL (fun m e w'=>∃ (S2:Nat→Prop) (p4:Option Addr) (ln1:Nat) (k3:Nat) (x1:(List Int)) (i1:Int),qcH list tag place m x1 i1=some o1∧e=[(0,.slice p1 list.length k1),(1,.slice p2 tag.length k2),(2,.int .i64 place),(7,.slice p4 ln1 k3),(8,.int .i64 i1)]∧SH w w' [Ch.own S2 (x1:List Int) [.slice p4 ln1 k3]]) n ⟨_,_,_,_,_,_,hF,rfl,h⟩ rfl ?_)
 rintro m1 e1 w2 ⟨S2,p4,ln1,k3,x1,i1,hF,rfl,h⟩
 obtain rfl:=(h.sl 0 rfl).2
 rcases m1 with _|m1
 ·cases hF
 refine X0 8 rfl (qk rfl hF ?_ ?_)<;>intro hF
 ·refine X0 7 rfl ?_
  obtain ⟨y1,hy1,hF,he1,b1,_,q1,cs3,hp1,hq1,rfl,hc2⟩:=s2.ix hF
  refine zxe hp1 hq1 he1 rfl (zc 0 (hc2.below h.below) rfl (X0 4 rfl ?_))
  obtain ⟨KF1,hKF1,o2,hF,hK2⟩:=bindE hF
  refine qa8 (fun e w'=>∃ (b2:Bool),KF1 b2=some o1∧e=[(0,.slice p1 list.length k1),(1,.slice p2 tag.length k2),(2,.int .i64 place),(7,.slice p4 x1.length k3),(8,.int .i64 i1),(9,.int .i64 y1),(44,.bool b2)]∧SH w w' [Ch.own S2 (x1:List Int) [.slice p4 x1.length k3]]) ?_ ?_
  ·refine X0 4 rfl (qh (t:=23) hF rfl ?_ ?_)<;>intro hF
   ·refine X0 7 rfl ?_
    obtain ⟨y2,hy2,hF,he2,b3,_,q2,cs4,hp2,hq2,hr2,hc4⟩:=s1.ix hF
    obtain ⟨p9,k6,p10,k7,p11,k8,rfl,s3,s4,s5⟩:=qJ hr2
    refine zxe hp2 hq2 he2 rfl (X0 3 rfl (zc 3 (hc4.below h.below) rfl (X0 6 rfl (qh (t:=33) hF rfl ?_ ?_))))<;>intro hF
    ·refine X0 5 rfl ?_
     obtain ⟨y3,hy3,hF,he3,b4,_,q3,cs5,hp3,hq3,hr3,hc5⟩:=s1.ix hF
     obtain ⟨p12,k9,p13,k10,p14,k11,rfl,s6,s7,s8⟩:=qJ hr3
     refine zxe hp3 hq3 he3 rfl (X0 3 rfl (zc 3 (hc5.below h.below) rfl (X0 3 rfl ?_)))
     obtain ⟨y4,hy4,hF,he4,b5,_,q4,cs6,hp4,hq4,rfl,hc6⟩:=s7.ix hF
     refine zxe hp4 hq4 he4 rfl (X0 1 rfl (zc 0 (hc6.below h.below) rfl (X0 6 rfl ?_)))
     obtain rfl:=qc hF
     exact rG ⟨_,hK2,rfl,h⟩ rfl
    refine X0 12 rfl ?_
    obtain rfl:=qc hF
    exact rG ⟨_,hK2,rfl,h⟩ rfl
   refine X0 22 rfl ?_
   obtain rfl:=qc hF
   exact rG ⟨_,hK2,rfl,h⟩ rfl
  rintro e2 w7 ⟨b2,hF,rfl,h⟩
  subst hKF1
  refine qk rfl hF ?_ ?_<;>intro hF
  ·refine X0 8 rfl (qm qb [.tmp 48] _ ([W64 (y1+1)]:List Int) h rfl rfl rfl rfl rfl rfl rfl rfl rfl ⟨rfl,trivial⟩ rfl fun w3 p5 S3 h=>?_)
   obtain ⟨x2,hx1,hF⟩:=qe hF
   obtain ⟨g1,hx1⟩:=qr hx1
   refine qaf qb 1 h rfl (h.sl 0 rfl).1 (h.sl 0 rfl).2 rfl rfl rfl rfl rfl rfl rfl rfl rfl g1 hx1 rfl fun w4 p6 k4 S4 h=>X0 8 rfl ?_
   replace h:=h.pick [1] rfl
   exact rK ⟨_,_,_,_,_,_,hF,rfl,h⟩ rfl
  refine X0 4 rfl (qm qb [.tmp 48] _ ([y1]:List Int) h rfl rfl rfl rfl rfl rfl rfl rfl rfl ⟨rfl,trivial⟩ rfl fun w5 p7 S5 h=>?_)
  obtain ⟨x3,hx2,hF⟩:=qe hF
  obtain ⟨g2,hx2⟩:=qr hx2
  refine qaf qb 1 h rfl (h.sl 0 rfl).1 (h.sl 0 rfl).2 rfl rfl rfl rfl rfl rfl rfl rfl rfl g2 hx2 rfl fun w6 p8 k5 S6 h=>X0 8 rfl ?_
  replace h:=h.pick [1] rfl
  exact rK ⟨_,_,_,_,_,_,hF,rfl,h⟩ rfl
 refine qp rfl ?_
 obtain rfl:=qc hF;replace hF:=hK1
 refine X0 5 rfl ?_
 obtain rfl:=qc hF
 exact rO 0 h rfl ⟨rfl,trivial⟩
def qca (list:(List qa)) (place:Int):Nat→(List Int)→Int→Option ((List Int) × Int)
 | 0,_,_=>none
 | n+1,x1,i1 =>
  bif decide (i1<(list.length:Int)) then
   (
    (idx list i1).bind fun y1 =>
    bif decide ((y1.As.length:Int) > 0) then
     (idx list i1).bind fun y2 =>
     (qhN n y2.As place).bind fun r1 =>
     some (decide (r1<0))
    else
     some false).bind fun b1 =>
   bif b1 then
    (appS x1 ([(-1)]:List Int)).bind fun x2 =>
    qca list place n x2 (W64 (i1+1))
   else
    (appS x1 ([0]:List Int)).bind fun x3 =>
    qca list place n x3 (W64 (i1+1))
  else
   some (x1,i1)
def qgz (n:Nat) (list:(List qa)) (place:Int):Option (List Int) :=
 (qca list place n ([]:List Int) 0).bind fun o=>match o with
 | (x1,_) =>
  (qgf n list x1 place).bind fun r2 =>
  some r2
theorem qjo {list:(List qa)} {place:Int} (ha1:GoT.R w (old w) list cs1) {r:(List Int)} (hF:qgz n list place=some r):RetV Tryz.prog 36 [GoT.v (List qa) cs1,.int .i64 place] w r:=by
 obtain ⟨p1,k1,rfl,s1⟩:=ha1
 refine zV 40 Tryz.func36 rfl fun h=>X0 6 rfl (qm qb [] _ ([]:List Int) h rfl rfl rfl rfl rfl rfl rfl rfl rfl trivial rfl fun w1 p2 S1 h=>X0 7 rfl ?_)
 obtain ⟨o1,hF,hK1⟩:=qe hF
 refine ql (rL (fun m e w'=>∃ (S2:Nat→Prop) (p3:Option Addr) (ln1:Nat) (k2:Nat) (x1:(List Int)) (i1:Int),qca list place m x1 i1=some o1∧e=[(0,.slice p1 list.length k1),(1,.int .i64 place),(5,.slice p3 ln1 k2),(6,.int .i64 i1)]∧SH w w' [Ch.own S2 (x1:List Int) [.slice p3 ln1 k2]]) n ⟨_,_,_,_,_,_,hF,rfl,h⟩ rfl ?_)
 rintro m1 e1 w2 ⟨S2,p3,ln1,k2,x1,i1,hF,rfl,h⟩
 obtain rfl:=(h.sl 0 rfl).2
 rcases m1 with _|m1
 ·cases hF
 refine X0 8 rfl (qk rfl hF ?_ ?_)<;>intro hF
 ·refine X0 9 rfl ?_
  obtain ⟨KF1,hKF1,o2,hF,hK2⟩:=bindE hF
  refine qa8 (fun e w'=>∃ (b1:Bool),KF1 b1=some o1∧e=[(0,.slice p1 list.length k1),(1,.int .i64 place),(5,.slice p3 x1.length k2),(6,.int .i64 i1),(7,.int .i64 0),(31,.bool b1)]∧SH w w' [Ch.own S2 (x1:List Int) [.slice p3 x1.length k2]]) ?_ ?_
  ·refine X0 3 rfl ?_
   obtain ⟨y1,hy1,hF,he1,b2,_,q1,cs2,hp1,hq1,hr1,hc3⟩:=s1.ix hF
   obtain ⟨p8,k5,p9,k6,p10,k7,rfl,s2,s3,s4⟩:=qJ hr1
   refine zxe hp1 hq1 he1 rfl (zp1 rfl (zc 2 (hc3.below h.below) rfl (zp3 rfl (qh (t:=22) hF rfl ?_ ?_))))<;>intro hF
   ·refine X0 5 rfl ?_
    obtain ⟨y2,hy2,hF,he2,b3,_,q2,cs3,hp2,hq2,hr2,hc4⟩:=s1.ix hF
    obtain ⟨p11,k8,p12,k9,p13,k10,rfl,s5,s6,s7⟩:=qJ hr2
    refine zxe hp2 hq2 he2 rfl (X0 3 rfl (zc 2 (hc4.below h.below) rfl (X0 3 rfl (zcI h hF (qj8 ⟨_,_,rfl,(h.oldS s5)⟩) rfl fun r1 w7 h hF=>X0 4 rfl ?_))))
    obtain rfl:=qc hF
    exact rG ⟨_,hK2,rfl,h⟩ rfl
   refine X0 10 rfl ?_
   obtain rfl:=qc hF
   exact rG ⟨_,hK2,rfl,h⟩ rfl
  rintro e2 w8 ⟨b1,hF,rfl,h⟩
  subst hKF1
  refine qk rfl hF ?_ ?_<;>intro hF
  ·refine X0 6 rfl (qm qb [.tmp 33] _ ([(-1)]:List Int) h rfl rfl rfl rfl rfl rfl rfl rfl rfl ⟨rfl,trivial⟩ rfl fun w3 p4 S3 h=>?_)
   obtain ⟨x2,hx1,hF⟩:=qe hF
   obtain ⟨g1,hx1⟩:=qr hx1
   refine qaf qb 1 h rfl (h.sl 0 rfl).1 (h.sl 0 rfl).2 rfl rfl rfl rfl rfl rfl rfl rfl rfl g1 hx1 rfl fun w4 p5 k3 S4 h=>X0 8 rfl ?_
   replace h:=h.pick [1] rfl
   exact rK ⟨_,_,_,_,_,_,hF,rfl,h⟩ rfl
  refine X0 4 rfl (qm qb [.tmp 33] _ ([0]:List Int) h rfl rfl rfl rfl rfl rfl rfl rfl rfl ⟨rfl,trivial⟩ rfl fun w5 p6 S5 h=>?_)
  obtain ⟨x3,hx2,hF⟩:=qe hF
  obtain ⟨g2,hx2⟩:=qr hx2
  refine qaf qb 1 h rfl (h.sl 0 rfl).1 (h.sl 0 rfl).2 rfl rfl rfl rfl rfl rfl rfl rfl rfl g2 hx2 rfl fun w6 p7 k4 S6 h=>X0 8 rfl ?_
  replace h:=h.pick [1] rfl
  exact rK ⟨_,_,_,_,_,_,hF,rfl,h⟩ rfl
 refine qp rfl ?_
 obtain rfl:=qc hF;replace hF:=hK1
 refine X0 5 rfl (zcL h hF (qh8 ⟨_,_,rfl,(h.oldS s1)⟩ (h.own 0 rfl)) rfl fun r2 w9 S7 p14 k11 h hF=>X0 2 rfl ?_)
 obtain rfl:=qc hF
 exact rO 0 h rfl ⟨rfl,trivial⟩
def qi1 (list:(List qa)) (path:(List Int)):Nat→(List Int)→Int→Option ((List Int) × Int)
 | 0,_,_=>none
 | n+1,x1,i1 =>
  bif decide (i1<(path.length:Int)) then
   (idx path i1).bind fun y2 =>
   (qgf n list x1 y2).bind fun r4 =>
   qi1 list path n r4 (W64 (i1+1))
  else
   some (x1,i1)
def qjR (n:Nat) (b:qd) (list:(List qa)) (path:(List Int)):Option ((List Int) × Int) :=
 (qhb n b list).bind fun r1 =>
 bif (r1 != 0) then some ([],r1) else
 (qgG n b path).bind fun r2 =>
 bif (!r2) then some ([],2) else
 (idx path 0).bind fun y1 =>
 (qgz n list y1).bind fun r3 =>
 (qi1 list path n r3 1).bind fun o=>match o with
 | (x1,_) =>
  some (x1,0)
theorem qnC {b:qd} {list:(List qa)} {path:(List Int)} (ha1:GoT.R w (old w) b cs1) (ha2:GoT.R w (old w) list cs2) (ha3:GoT.R w (old w) path cs3) {r:((List Int) × Int)} (hF:qjR n b list path=some r):RetV Tryz.prog 9 [GoT.v qd cs1,GoT.v (List qa) cs2,GoT.v (List Int) cs3] w r:=by
 obtain ⟨p1,k1,p2,k2,p3,k3,p4,k4,p5,k5,rfl,s1,s2,s3,s4,s5⟩:=qD ha1
 obtain ⟨p6,k6,rfl,s6⟩:=ha2
 obtain ⟨p7,k7,rfl,s7⟩:=ha3
 refine zV 40 Tryz.func9 rfl fun h=>zSR (qO h rfl rfl fun w1 bb1 h=>X1 7 0 h rfl (zcI h hF (qj1 (h.old ha1) ⟨_,_,rfl,(h.oldS s6)⟩) rfl fun r1 w2 h hF=>X0 8 rfl (qk rfl hF ?_ ?_)))<;>intro hF
 ·refine X0 6 rfl ?_
  obtain rfl:=qc hF
  exact qar qb (ρ:=((List Int) × Int)) [GoT.v (List Int) [.slice none 0 0],GoT.v Int [.int .i64 r1]] h ⟨rfl,rfl,trivial⟩ (PV.done h (qaC h qeO (qaD (qu (S:=fun _=>False) rfl)) (by rfl)))
 refine X1 6 0 h rfl (zcB h hF (qle (h.old ha1) ⟨_,_,rfl,(h.oldS s7)⟩) rfl fun r2 w3 h hF=>X0 2 rfl (qk rfl hF ?_ ?_))<;>intro hF
 ·refine X0 5 rfl ?_
  obtain rfl:=qc hF
  exact qar qb (ρ:=((List Int) × Int)) [GoT.v (List Int) [.slice none 0 0],GoT.v Int [.int .i64 2]] h ⟨rfl,rfl,trivial⟩ (PV.done h (qaC h qeO (qaD (qu (S:=fun _=>False) rfl)) (by rfl)))
 refine X0 5 rfl ?_
 obtain ⟨y1,hy1,hF,he1,b1,_,q1,cs4,hp1,hq1,rfl,hc3⟩:=s7.ix hF
 refine zxe hp1 hq1 he1 rfl (zc 0 (hc3.below h.below) rfl (zcL h hF (qjo ⟨_,_,rfl,(h.oldS s6)⟩) rfl fun r3 w4 S1 p8 k8 h hF=>X0 7 rfl ?_))
 obtain ⟨o1,hF,hK1⟩:=qe hF
 refine ql ?_
 replace h:=h.pick [0] rfl
 refine rL (fun m e w'=>∃ (S2:Nat→Prop) (p9:Option Addr) (ln1:Nat) (k9:Nat) (x1:(List Int)) (i1:Int),qi1 list path m x1 i1=some o1∧e=[(1,.slice p6 list.length k6),(2,.slice p7 path.length k7),(9,.slice p9 ln1 k9),(10,.int .i64 i1)]∧SH w w' [Ch.own S2 (x1:List Int) [.slice p9 ln1 k9]]) n ⟨_,_,_,_,_,_,hF,rfl,h⟩ rfl ?_
 rintro m1 e1 w5 ⟨S2,p9,ln1,k9,x1,i1,hF,rfl,h⟩
 obtain rfl:=(h.sl 0 rfl).2
 rcases m1 with _|m1
 ·cases hF
 refine X0 8 rfl (qk rfl hF ?_ ?_)<;>intro hF
 ·refine X0 8 rfl ?_
  obtain ⟨y2,hy2,hF,he2,b2,_,q2,cs5,hp2,hq2,rfl,hc5⟩:=s7.ix hF
  refine zxe hp2 hq2 he2 rfl (zc 0 (hc5.below h.below) rfl (zcL h hF (qh8 ⟨_,_,rfl,(h.oldS s6)⟩ (h.own 0 rfl)) rfl fun r4 w6 S3 p10 k10 h hF=>X0 8 rfl ?_))
  replace h:=h.pick [0] rfl
  exact rK ⟨_,_,_,_,_,_,hF,rfl,h⟩ rfl
 refine qp rfl ?_
 obtain rfl:=qc hF;replace hF:=hK1
 refine X0 6 rfl ?_
 obtain rfl:=qc hF
 exact qar qb (ρ:=((List Int) × Int)) [GoT.v (List Int) [.slice p9 x1.length k9],GoT.v Int [.int .i64 0]] h ⟨rfl,rfl,trivial⟩ (PV.done h (qaC h (qC 0 h rfl) (qaD (qu (S:=fun _=>False) rfl)) (by rfl)))
def qeE (n:Nat) (a_e:qa) (v0:(Option Tview)):Option Bool :=
 (qec n v0 a_e).bind fun r1 =>
 some (!r1)
theorem qjw {a_e:qa} {v0:(Option Tview)} (ha1:GoT.R w (old w) a_e cs1) {p4:Option Addr} (ha2:GoT.R w (old w) (some v0) [.pointer p4]) {r:Bool} (hF:qeE n a_e v0=some r):RetV Tryz.prog 77 [GoT.v qa cs1,.pointer p4] w r:=by
 obtain ⟨p1,k1,p2,k2,p3,k3,rfl,s1,s2,s3⟩:=qJ ha1
 obtain ⟨b1,o_1,cs2,rfl,-,hr1,hc1⟩:=PtR.get ha2 rfl
 obtain ⟨p5,rfl,s4⟩:=qda hr1
 exact zV 8 Tryz.func77 rfl fun h=>zSR (qO h rfl rfl fun w1 bb1 h=>X0 4 rfl (zc 0 (hc1.below h.below) rfl (zl 0 0 h rfl (zcB h hF (qi6 (h.old s4) (h.old ha1)) rfl fun r1 w2 h hF=>X0 3 rfl (rb h hF rfl)))))
def qF (s:(List qa)) (f_0:(Option Tview)):Nat→Int→Option (Flow Int Int)
 | 0,_=>none
 | n+1,i1 =>
  bif decide (i1<(s.length:Int)) then
   (idx s i1).bind fun y1 =>
   (qeE n y1 f_0).bind fun r1 =>
   bif r1 then some (.ret i1) else
   qF s f_0 n (W64 (i1+1))
  else
   some (.nxt i1)
def qaG (n:Nat) (s:(List qa)) (f_0:(Option Tview)):Option Int :=
 (qF s f_0 n 0).bind fun o=>match o with
 | .ret r=>some r
 | .nxt _ =>
  some (-1)
theorem qde {s:(List qa)} {f_0:(Option Tview)} (ha1:GoT.R w (old w) s cs1) {p2:Option Addr} (ha2:GoT.R w (old w) (some f_0) [.pointer p2]) {r:Int} (hF:qaG n s f_0=some r):RetV Tryz.prog 138 [GoT.v (List qa) cs1,.func (.func 77) #[] #[.pointer p2]] w r:=by
 obtain ⟨p1,k1,rfl,s1⟩:=ha1
 obtain ⟨b1,o_1,cs2,rfl,-,hr1,hc1⟩:=PtR.get ha2 rfl
 obtain ⟨p3,rfl,s2⟩:=qda hr1
 refine zV 19 Tryz.func138 rfl fun h=>X0 11 rfl ?_
 obtain ⟨o1,hF,hK1⟩:=qe hF
 refine ql (rL (fun m e w'=>∃ (i1:Int),qF s f_0 m i1=some o1∧e=[(0,.slice p1 s.length k1),(1,.func (.func 77) #[] #[.pointer (some ⟨b1,o_1,none⟩)]),(7,.int .i64 (s.length:Int)),(8,.int .i64 i1)]∧SH w w' []) n ⟨_,hF,rfl,h⟩ rfl ?_)
 rintro m1 e1 w1 ⟨i1,hF,rfl,h⟩
 rcases m1 with _|m1
 ·cases hF
 refine X0 5 rfl (qk rfl hF ?_ ?_)<;>intro hF
 ·refine X0 13 rfl ?_
  obtain ⟨y1,hy1,hF,he1,b2,_,q1,cs3,hp1,hq1,hr2,hc3⟩:=s1.ix hF
  obtain ⟨p4,k2,p5,k3,p6,k4,rfl,s3,s4,s5⟩:=qJ hr2
  refine zxe hp1 hq1 he1 rfl (zc 0 (hc3.below h.below) rfl (zcB h hF (qjw (qcs y1 (h.oldS s3) (h.oldS s4) (h.oldS s5)) (h.old ha2)) rfl fun r1 w2 h hF=>qa5 (qk rfl hF ?_ ?_)))<;>intro hF
  ·refine X0 5 rfl ?_
   obtain rfl:=qc hF;replace hF:=hK1
   exact ri h hF rfl
  exact X0 6 rfl (rK ⟨_,hF,rfl,h⟩ rfl)
 refine qp rfl ?_
 obtain rfl:=qc hF;replace hF:=hK1
 exact X0 4 rfl (ri h hF rfl)
def qad (n:Nat) (s:(List qa)) (f_0:(Option Tview)):Option Bool :=
 (qaG n s f_0).bind fun r1 =>
 some (decide (r1 ≥ 0))
theorem qcS {s:(List qa)} {f_0:(Option Tview)} (ha1:GoT.R w (old w) s cs1) {p2:Option Addr} (ha2:GoT.R w (old w) (some f_0) [.pointer p2]) {r:Bool} (hF:qad n s f_0=some r):RetV Tryz.prog 76 [GoT.v (List qa) cs1,.func (.func 77) #[] #[.pointer p2]] w r:=by
 obtain ⟨p1,k1,rfl,s1⟩:=ha1
 obtain ⟨b1,o_1,cs2,rfl,-,hr1,hc1⟩:=PtR.get ha2 rfl
 obtain ⟨p3,rfl,s2⟩:=qda hr1
 exact zV 9 Tryz.func76 rfl fun h=>X0 8 rfl (zcI h hF (qde ⟨_,_,rfl,(h.oldS s1)⟩ (h.old ha2)) rfl fun r1 w1 h hF=>X0 3 rfl (rb h hF rfl))
def qcT (n:Nat) (b:qd) (list:(List qa)):Option ((Option Tview) × Int) :=
 (qiq n b).bind fun r1 =>
 bif (!r1) then some (none,1) else
 bif decide ((list.length:Int) > 6) then some (none,3) else
 (qij n b).bind fun r2 =>
 (qad n list r2).bind fun r3 =>
 bif r3 then some (none,5) else
 some (r2,0)
theorem qfH {A:Nat→Prop} (hA:∀ b,A b→old w b) {b:qd} {list:(List qa)} (ha1:GoT.R w A b cs1) (ha2:GoT.R w A list cs2) {r:((Option Tview) × Int)} (hF:qcT n b list=some r):RetG Tryz.prog 31 [GoT.v qd cs1,GoT.v (List qa) cs2] w A r:=by
 obtain ⟨p1,k1,p2,k2,p3,k3,p4,k4,p5,k5,rfl,s1,s2,s3,s4,s5⟩:=qD ha1
 obtain ⟨p6,k6,rfl,s6⟩:=ha2
 have hg:=Rg.start hA
 refine qf6 Tryz.func31 rfl (m:=21) rfl rfl (fun h=>?_)
 refine zSR (qO h rfl rfl fun w1 bb1 h=>X1 8 0 h rfl (zcB h hF (qmz (h.old (GoT.mono ha1 hg.old))) rfl fun r1 w2 h hF=>X0 3 rfl (qk rfl hF ?_ ?_)))<;>intro hF
 ·refine X0 5 rfl ?_
  obtain rfl:=qc hF
  have hv1:GoRs.Rs (ρ:=((Option Tview) × Int)) h.wc (reg A w h.wc) (none,1) [GoT.v (Option Tview) [.pointer none],GoT.v Int [.int .i64 1]]:=⟨_,_,rfl,rfl,⟨_,rfl,rfl⟩⟩
  exact qha qb (ρ:=((Option Tview) × Int)) (r:=(none,1)) [GoT.v (Option Tview) [.pointer none],GoT.v Int [.int .i64 1]] h ⟨rfl,rfl,trivial⟩ hv1
 refine X0 7 rfl (qk rfl hF ?_ ?_)<;>intro hF
 ·refine X0 5 rfl ?_
  obtain rfl:=qc hF
  have hv2:GoRs.Rs (ρ:=((Option Tview) × Int)) h.wc (reg A w h.wc) (none,3) [GoT.v (Option Tview) [.pointer none],GoT.v Int [.int .i64 3]]:=⟨_,_,rfl,rfl,⟨_,rfl,rfl⟩⟩
  exact qha qb (ρ:=((Option Tview) × Int)) (r:=(none,3)) [GoT.v (Option Tview) [.pointer none],GoT.v Int [.int .i64 3]] h ⟨rfl,rfl,trivial⟩ hv2
 refine X1 5 0 h rfl ?_
 obtain ⟨r2,hr2,hF⟩:=qe hF
 refine qkO r2 hg h (cB 75 rfl) (qms (hg.regOld h) (hg.inR h ha1) hr2) rfl rfl rfl rfl fun w3 us1 B1 hg1 hu1 hz1 hv3=>?_
 have hL1:=h.ext hu1.below
 have s7:=Up.S hg h hu1 s6
 have hb1:=h.below.trans (hu1.below.mono h.below.size)
 replace h:=hz1
 obtain ⟨cs3,rfl,hr3⟩:=qgt hv3
 obtain ⟨p7,rfl,s8⟩:=qda hr3
 refine qB qb h rfl rfl rfl fun w4 bb2 h=>zs 0 h rfl fun w5 h=>X0 6 rfl (zcB h hF (qcS ⟨_,_,rfl,(h.oldS (s7.mono hg1.old))⟩ (qhM (x:=r2) 0 h rfl (h.old (GoT.mono s8 hg1.old)))) rfl fun r3 w6 h hF=>qa5 (qk rfl hF ?_ ?_))<;>intro hF
 ·refine X0 5 rfl ?_
  obtain rfl:=qc hF
  have hv4:GoRs.Rs (ρ:=((Option Tview) × Int)) h.wc (reg A w h.wc) (none,5) [GoT.v (Option Tview) [.pointer none],GoT.v Int [.int .i64 5]]:=⟨_,_,rfl,rfl,⟨_,rfl,rfl⟩⟩
  exact qha qb (ρ:=((Option Tview) × Int)) (r:=(none,5)) [GoT.v (Option Tview) [.pointer none],GoT.v Int [.int .i64 5]] (h.unbase hg1.below ⟨fun _ h=>h,trivial⟩) ⟨rfl,rfl,trivial⟩ hv4
 refine X1 7 0 h rfl ?_
 obtain rfl:=qc hF
 have hv5:GoRs.Rs (ρ:=((Option Tview) × Int)) h.wc (reg A w h.wc) (r2,0) [GoT.v (Option Tview) [.pointer p7],GoT.v Int [.int .i64 0]]:=⟨_,_,rfl,(hg1.outR h (hg1.inR h s8)),⟨_,rfl,rfl⟩⟩
 exact qha qb (ρ:=((Option Tview) × Int)) (r:=(r2,0)) [GoT.v (Option Tview) [.pointer p7],GoT.v Int [.int .i64 0]] (h.unbase hg1.below ⟨fun _ h=>h,trivial⟩) ⟨rfl,rfl,trivial⟩ hv5
def qiC (n:Nat) (b:qd) (list:(List qa)) (path:(List Int)):Option ((List Int) × Int) :=
 (qcT n b list).bind fun o=>match o with
  | (r2,r3) =>
   bif (r3 != 0) then some ([],r3) else
   (qc2 n r2 path).bind fun r4 =>
   bif (!r4) then some ([],2) else
   (qf0 n list path).bind fun r5 =>
   some (r5,0)
theorem qnL {b:qd} {list:(List qa)} {path:(List Int)} (ha1:GoT.R w (old w) b cs1) (ha2:GoT.R w (old w) list cs2) (ha3:GoT.R w (old w) path cs3) {r:((List Int) × Int)} (hF:qiC n b list path=some r):RetV Tryz.prog 8 [GoT.v qd cs1,GoT.v (List qa) cs2,GoT.v (List Int) cs3] w r:=by
 obtain ⟨p1,k1,p2,k2,p3,k3,p4,k4,p5,k5,rfl,s1,s2,s3,s4,s5⟩:=qD ha1
 obtain ⟨p6,k6,rfl,s6⟩:=ha2
 obtain ⟨p7,k7,rfl,s7⟩:=ha3
 refine zV 28 Tryz.func8 rfl fun h=>zSR (qO h rfl rfl fun w1 bb1 h=>X1 7 0 h rfl ?_)
 have hg1:Rg (old w) w (old w) w:=.start (fun _ h=>h)
 obtain ⟨r1,hr1,hF⟩:=qe hF
 obtain ⟨r2,r3⟩:=r1
 refine qkO (r2,r3) hg1 h (cB 31 rfl) (qfH (hg1.regOld h) (hg1.inR h ha1) ⟨_,_,rfl,(hg1.inS h s6)⟩ hr1) rfl rfl rfl rfl fun w2 us1 B1 hg2 hu1 hz1 hv1=>?_
 have hL1:=h.ext hu1.below
 have s8:=Up.S hg1 h hu1 s6
 have s9:=Up.S hg1 h hu1 s7
 have hb1:=h.below.trans (hu1.below.mono h.below.size)
 replace h:=hz1
 obtain ⟨cs4,us2,rfl,hr2,hv2⟩:=qev hv1
 obtain ⟨p8,rfl,s10⟩:=qda hr2
 obtain ⟨cs5,rfl,hr3⟩:=qgt hv2
 obtain rfl:=hr3
 refine X0 14 rfl (qk rfl hF ?_ ?_)<;>intro hF
 ·refine X0 6 rfl ?_
  replace h:=h.unbase hg2.below (show NoD [] from trivial)
  obtain rfl:=qc hF
  exact qar qb (ρ:=((List Int) × Int)) [GoT.v (List Int) [.slice none 0 0],GoT.v Int [.int .i64 r3]] h ⟨rfl,rfl,trivial⟩ (PV.done h (qaC h qeO (qaD (qu (S:=fun _=>False) rfl)) (by rfl)))
 refine X0 4 rfl (zcB h hF (qgW (h.old (GoT.mono s10 hg2.old)) ⟨_,_,rfl,(h.oldS (s9.mono hg2.old))⟩) rfl fun r4 w3 h hF=>X0 3 rfl (qk rfl hF ?_ ?_))<;>intro hF
 ·refine X0 5 rfl ?_
  replace h:=h.unbase hg2.below (show NoD [] from trivial)
  obtain rfl:=qc hF
  exact qar qb (ρ:=((List Int) × Int)) [GoT.v (List Int) [.slice none 0 0],GoT.v Int [.int .i64 2]] h ⟨rfl,rfl,trivial⟩ (PV.done h (qaC h qeO (qaD (qu (S:=fun _=>False) rfl)) (by rfl)))
 refine X0 6 rfl (zcL h hF (qi3 ⟨_,_,rfl,(h.oldS (s8.mono hg2.old))⟩ ⟨_,_,rfl,(h.oldS (s9.mono hg2.old))⟩) rfl fun r5 w4 S1 p9 k8 h hF=>X0 3 rfl ?_)
 replace h:=h.unbase hg2.below ⟨fun _ h=>h,trivial⟩
 obtain rfl:=qc hF
 exact qar qb (ρ:=((List Int) × Int)) [GoT.v (List Int) [.slice p9 r5.length k8],GoT.v Int [.int .i64 0]] h ⟨rfl,rfl,trivial⟩ (PV.done h (qaC h (qC 0 h rfl) (qaD (qu (S:=fun _=>False) rfl)) (by rfl)))
def qfL (n:Nat) (v:(Option Tview)) (place:Int):Option Bool :=
 (v).bind fun y1 =>
 (qaI n y1.places).bind fun r1 =>
 (qaA n place 0 (W64 (r1-1))).bind fun r2 =>
 some r2
theorem qku {v:(Option Tview)} {place:Int} (ha1:GoT.R w (old w) v cs1) {r:Bool} (hF:qfL n v place=some r):RetV Tryz.prog 91 [GoT.v (Option Tview) cs1,.int .i64 place] w r:=by
 obtain ⟨p1,rfl,s1⟩:=qda ha1
 refine zV 13 Tryz.func91 rfl fun h=>X0 8 rfl ?_
 obtain ⟨y1,hy1,hF⟩:=qe hF
 obtain ⟨b1,o_1,cs2,rfl,-,hr1,hc1⟩:=PtR.get s1 hy1
 obtain ⟨p2,k1,p3,k2,p4,k3,p5,k4,p6,k5,p7,k6,p8,k7,p9,k8,p10,k9,p11,k10,rfl,s2,s3,s4,s5,s6,s7,s8,s9,s10,s11⟩:=qgN hr1
 exact zp2 rfl (zc 5 (hc1.below h.below) rfl (zcI h hF (qef ⟨_,_,rfl,(h.oldS s7)⟩) rfl fun r1 w1 h hF=>zp1 rfl (zcB h hF qah rfl fun r2 w2 h hF=>X0 2 rfl (rb h hF rfl))))
def qg2 (n:Nat) (b:qd) (list:(List qa)) (place:Int):Option ((Option Tview) × Int) :=
 (qcT n b list).bind fun o=>match o with
  | (r2,r3) =>
   bif (r3==0) then
    (qfL n r2 place).bind fun r4 =>
    bif (!r4) then some (none,2) else
    some (r2,r3)
   else
    some (r2,r3)
theorem qjZ {A:Nat→Prop} (hA:∀ b,A b→old w b) {b:qd} {list:(List qa)} {place:Int} (ha1:GoT.R w A b cs1) (ha2:GoT.R w A list cs2) {r:((Option Tview) × Int)} (hF:qg2 n b list place=some r):RetG Tryz.prog 38 [GoT.v qd cs1,GoT.v (List qa) cs2,.int .i64 place] w A r:=by
 obtain ⟨p1,k1,p2,k2,p3,k3,p4,k4,p5,k5,rfl,s1,s2,s3,s4,s5⟩:=qD ha1
 obtain ⟨p6,k6,rfl,s6⟩:=ha2
 have hg:=Rg.start hA
 refine qf6 Tryz.func38 rfl (m:=26) rfl rfl (fun h=>?_)
 refine zSR (qO h rfl rfl fun w1 bb1 h=>X1 7 0 h rfl ?_)
 obtain ⟨r1,hr1,hF⟩:=qe hF
 obtain ⟨r2,r3⟩:=r1
 refine qkO (r2,r3) hg h (cB 31 rfl) (qfH (hg.regOld h) (hg.inR h ha1) ⟨_,_,rfl,(hg.inS h s6)⟩ hr1) rfl rfl rfl rfl fun w2 us1 B1 hg1 hu1 hz1 hv1=>?_
 have hL1:=h.ext hu1.below
 have hb1:=h.below.trans (hu1.below.mono h.below.size)
 replace h:=hz1
 obtain ⟨cs3,us2,rfl,hr2,hv2⟩:=qev hv1
 obtain ⟨p7,rfl,s7⟩:=qda hr2
 obtain ⟨cs4,rfl,hr3⟩:=qgt hv2
 obtain rfl:=hr3
 refine X0 12 rfl (qh (t:=18) hF rfl ?_ ?_)<;>intro hF
 ·refine X0 5 rfl (zcB h hF (qku (h.old (GoT.mono s7 hg1.old))) rfl fun r4 w3 h hF=>X0 4 rfl (qk rfl hF ?_ ?_))<;>intro hF
  ·refine X0 5 rfl ?_
   obtain rfl:=qc hF
   have hv3:GoRs.Rs (ρ:=((Option Tview) × Int)) h.wc (reg A w h.wc) (none,2) [GoT.v (Option Tview) [.pointer none],GoT.v Int [.int .i64 2]]:=⟨_,_,rfl,rfl,⟨_,rfl,rfl⟩⟩
   exact qha qb (ρ:=((Option Tview) × Int)) (r:=(none,2)) [GoT.v (Option Tview) [.pointer none],GoT.v Int [.int .i64 2]] (h.unbase hg1.below (show NoD [] from trivial)) ⟨rfl,rfl,trivial⟩ hv3
  refine X0 8 rfl ?_
  obtain rfl:=qc hF
  have hv4:GoRs.Rs (ρ:=((Option Tview) × Int)) h.wc (reg A w h.wc) (r2,r3) [GoT.v (Option Tview) [.pointer p7],GoT.v Int [.int .i64 r3]]:=⟨_,_,rfl,(hg1.outR h (hg1.inR h s7)),⟨_,rfl,rfl⟩⟩
  exact qha qb (ρ:=((Option Tview) × Int)) (r:=(r2,r3)) [GoT.v (Option Tview) [.pointer p7],GoT.v Int [.int .i64 r3]] (h.unbase hg1.below (show NoD [] from trivial)) ⟨rfl,rfl,trivial⟩ hv4
 refine X0 6 rfl (qbJ rfl rfl (X0 8 rfl ?_))
 obtain rfl:=qc hF
 have hv5:GoRs.Rs (ρ:=((Option Tview) × Int)) h.wc (reg A w h.wc) (r2,r3) [GoT.v (Option Tview) [.pointer p7],GoT.v Int [.int .i64 r3]]:=⟨_,_,rfl,(hg1.outR h (hg1.inR h s7)),⟨_,rfl,rfl⟩⟩
 exact qha qb (ρ:=((Option Tview) × Int)) (r:=(r2,r3)) [GoT.v (Option Tview) [.pointer p7],GoT.v Int [.int .i64 r3]] (h.unbase hg1.below (show NoD [] from trivial)) ⟨rfl,rfl,trivial⟩ hv5
def qgo (list:(List qa)) (tag:(List Int)):Nat→Int→Option (Flow Bool Int)
 | 0,_=>none
 | n+1,i1 =>
  bif decide (i1<(list.length:Int)) then
   (idx list i1).bind fun y1 =>
   (idx tag i1).bind fun y2 =>
   (qV n y1.Am).bind fun r1 =>
   (qaA n y2 (-1) r1).bind fun r2 =>
   bif (!r2) then some (.ret false) else
   qgo list tag n (W64 (i1+1))
  else
   some (.nxt i1)
def qkS (n:Nat) (list:(List qa)) (tag:(List Int)):Option Bool :=
 bif ((tag.length:Int) != (list.length:Int)) then some false else
 (qgo list tag n 0).bind fun o=>match o with
 | .ret r=>some r
 | .nxt _ =>
  some true
theorem qoO {list:(List qa)} {tag:(List Int)} (ha1:GoT.R w (old w) list cs1) (ha2:GoT.R w (old w) tag cs2) {r:Bool} (hF:qkS n list tag=some r):RetV Tryz.prog 39 [GoT.v (List qa) cs1,GoT.v (List Int) cs2] w r:=by
 obtain ⟨p1,k1,rfl,s1⟩:=ha1
 obtain ⟨p2,k2,rfl,s2⟩:=ha2
 refine zV 29 Tryz.func39 rfl fun h=>X0 13 rfl (qk rfl hF ?_ ?_)<;>intro hF
 ·exact X0 4 rfl (rb h hF rfl)
 refine X0 8 rfl ?_
 obtain ⟨o1,hF,hK1⟩:=qe hF
 refine ql (rL (fun m e w'=>∃ (i1:Int),qgo list tag m i1=some o1∧e=[(1,.slice p2 tag.length k2),(12,.slice p1 list.length k1),(13,.int .i64 (list.length:Int)),(14,.int .i64 i1)]∧SH w w' []) n ⟨_,hF,rfl,h⟩ rfl ?_)
 rintro m1 e1 w1 ⟨i1,hF,rfl,h⟩
 rcases m1 with _|m1
 ·cases hF
 refine X0 5 rfl (qk rfl hF ?_ ?_)<;>intro hF
 ·refine X0 6 rfl ?_
  obtain ⟨y1,hy1,hF,he1,b1,_,q1,cs3,hp1,hq1,hr1,hc3⟩:=s1.ix hF
  obtain ⟨p3,k3,p4,k4,p5,k5,rfl,s3,s4,s5⟩:=qJ hr1
  refine zxe hp1 hq1 he1 rfl (zc 0 (hc3.below h.below) rfl (qB qb h rfl rfl rfl fun w2 bb1 h=>zp1 rfl (zs 0 h rfl fun w3 h=>zNS (rD (zd2 rfl ?_)))))
  obtain ⟨y2,hy2,hF,he2,b2,_,q2,cs4,hp2,hq2,rfl,hc4⟩:=s2.ix hF
  refine zdxe hp2 hq2 he2 rfl (zdc 0 (hc4.below h.below) rfl (Y1 2 0 h rfl ?_))
  obtain ⟨r1,hr3,hF⟩:=qe hF
  refine qc7 r1 (vsI _) (cB 80 rfl) (fun _ hb=>qaJ ⟨_,_,rfl,((h.ext hb).oldS s4)⟩ hr3) rfl rfl rfl rfl ?_
  obtain ⟨r2,hr4,hF⟩:=qe hF
  refine qc7 r2 (vsB _) (cB 79 rfl) (fun _ hb=>qah  hr4) rfl rfl rfl rfl (zd1 rfl (dN h fun w4 h=>qk rfl hF ?_ ?_))<;>intro hF
  ·refine X0 4 rfl ?_
   obtain rfl:=qc hF;replace hF:=hK1
   exact rb h hF rfl
  refine X0 6 rfl ?_
  replace h:=h.pick [] rfl
  exact rK ⟨_,hF,rfl,h⟩ rfl
 refine qp rfl ?_
 obtain rfl:=qc hF;replace hF:=hK1
 exact X0 4 rfl (rb h hF rfl)
def qf5 (a_e:qa):Nat→Int→Int→Option (Int × Int)
 | 0,_,_=>none
 | n+1,i1,i2 =>
  bif decide (i2<((3:Nat):Int)) then
   (idx ([a_e.Am,a_e.To,a_e.As]:List (List Int)) i2).bind fun y1 =>
   bif decide ((y1.length:Int) > 0) then
    (shlS 1 i2).bind fun y2 =>
    qf5 a_e n (W64 (i1+y2)) (W64 (i2+1))
   else
    qf5 a_e n i1 (W64 (i2+1))
  else
   some (i1,i2)
def qiO (n:Nat) (a_e:qa):Option Int :=
 (qf5 a_e n 0 0).bind fun o=>match o with
 | (i1,_) =>
  some i1
theorem qnB {a_e:qa} (ha1:GoT.R w (old w) a_e cs1) {r:Int} (hF:qiO n a_e=some r):RetV Tryz.prog 155 [GoT.v qa cs1] w r:=by
 obtain ⟨p1,k1,p2,k2,p3,k3,rfl,s1,s2,s3⟩:=qJ ha1
 refine zV 28 Tryz.func155 rfl fun h=>zSR (qO h rfl rfl fun w1 bb1 h=>X3 15 0 0 0 h rfl (qmb qb [.tmp 7,.tmp 9,.tmp 11] _ ([a_e.Am,a_e.To,a_e.As]:List (List Int)) h rfl rfl rfl rfl rfl rfl rfl rfl rfl ⟨⟨_,_,rfl,s2⟩,⟨_,_,rfl,s3⟩,⟨_,_,rfl,s1⟩,trivial⟩ rfl fun w2 p4 S1 h=>X0 3 rfl ?_))
 obtain ⟨o1,hF,hK1⟩:=qe hF
 refine ql ?_
 replace h:=h.pick [0] rfl
 refine rL (fun m e w'=>∃ (i1:Int) (i2:Int),qf5 a_e m i1 i2=some o1∧e=[(3,.int .i64 i1),(12,.slice p4 3 3),(13,.int .i64 ((3:Nat):Int)),(14,.int .i64 i2)]∧SH w w' [Ch.rowD w S1 (([a_e.Am,a_e.To,a_e.As]:List (List Int)):List (List Int)) p4 3]) n ⟨_,_,hF,rfl,h⟩ rfl ?_
 rintro m1 e1 w3 ⟨i1,i2,hF,rfl,h⟩
 rcases m1 with _|m1
 ·cases hF
 refine X0 5 rfl (qk rfl hF ?_ ?_)<;>intro hF
 ·refine X0 6 rfl ?_
  obtain ⟨y1,hy1,hF⟩:=qe hF
  have he1:=qax hy1
  obtain ⟨b1,o_1,q1,cs2,hp1,hq1,-,hr1,hc2⟩:=h.atD 0 rfl hy1
  obtain ⟨p5,k4,rfl,s4⟩:=hr1
  refine zxe hp1 hq1 he1 rfl (zc 0 hc2 rfl (X0 9 rfl (qk rfl hF ?_ ?_)))<;>intro hF
  ·refine X0 3 rfl ?_
   obtain ⟨y2,hx1,hF⟩:=qe hF
   obtain ⟨g1,hx1⟩:=qkK hx1
   refine r_v (qqz g1 rfl rfl) rfl ?_
   rw [hx1]
   exact X0 8 rfl (rK ⟨_,_,hF,rfl,h⟩ rfl)
  exact X0 6 rfl (rK ⟨_,_,hF,rfl,h⟩ rfl)
 refine qp rfl ?_
 obtain rfl:=qc hF;replace hF:=hK1
 exact X0 5 rfl (ri h hF rfl)
def qaY (list:(List qa)) (kind:Int) (greatest:Bool):Nat→Int→Int→Int→Option (Int × Int × Int)
 | 0,_,_,_=>none
 | n+1,i1,i2,i3 =>
  bif decide (i3<(list.length:Int)) then
   (idx list i3).bind fun y1 =>
   bif (y1.Ar != kind) then qaY list kind greatest n i1 i2 (W64 (i3+1)) else
   (qiO n y1).bind fun r1 =>
   bif decide (r1 > i1) then qaY list kind greatest n r1 y1.Bc (W64 (i3+1)) else
   bif (r1==i1) then
    bif ((decide (y1.Bc > i2))==greatest) then qaY list kind greatest n r1 y1.Bc (W64 (i3+1)) else
    qaY list kind greatest n i1 i2 (W64 (i3+1))
   else
    qaY list kind greatest n i1 i2 (W64 (i3+1))
  else
   some (i1,i2,i3)
def qfb (n:Nat) (list:(List qa)) (kind:Int) (greatest:Bool):Option Int :=
 (qaY list kind greatest n (-1) (-1) 0).bind fun o=>match o with
 | (_,i2,_) =>
  some i2
theorem qhj {list:(List qa)} {kind:Int} {greatest:Bool} (ha1:GoT.R w (old w) list cs1) {r:Int} (hF:qfb n list kind greatest=some r):RetV Tryz.prog 93 [GoT.v (List qa) cs1,.int .i64 kind,.bool greatest] w r:=by
 obtain ⟨p1,k1,rfl,s1⟩:=ha1
 refine zV 45 Tryz.func93 rfl fun h=>X0 16 rfl ?_
 obtain ⟨o1,hF,hK1⟩:=qe hF
 refine ql (rL (fun m e w'=>∃ (i1:Int) (i2:Int) (i3:Int),qaY list kind greatest m i1 i2 i3=some o1∧e=[(1,.int .i64 kind),(2,.bool greatest),(7,.int .i64 i1),(8,.int .i64 i2),(12,.slice p1 list.length k1),(13,.int .i64 (list.length:Int)),(14,.int .i64 i3)]∧SH w w' []) n ⟨_,_,_,hF,rfl,h⟩ rfl ?_)
 rintro m1 e1 w1 ⟨i1,i2,i3,hF,rfl,h⟩
 rcases m1 with _|m1
 ·cases hF
 refine X0 5 rfl (qk rfl hF ?_ ?_)<;>intro hF
 ·refine zKSBSR ?_
  obtain ⟨y1,hy1,hF,he1,b1,_,q1,cs2,hp1,hq1,hr1,hc2⟩:=s1.ix hF
  obtain ⟨p2,k2,p3,k3,p4,k4,rfl,s2,s3,s4⟩:=qJ hr1
  refine zxe hp1 hq1 he1 rfl (zc 0 (hc2.below h.below) rfl (qB qb h rfl rfl rfl fun w2 bb1 h=>zs 0 h rfl fun w3 h=>X1 9 0 h rfl (qk rfl hF ?_ ?_)))<;>intro hF
  ·refine qp rfl (X0 4 rfl ?_)
   replace h:=h.pick [] rfl
   exact rK ⟨_,_,_,hF,rfl,h⟩ rfl
  refine X1 4 0 h rfl (zcI h hF (qnB (qcs y1 (h.oldS s2) (h.oldS s3) (h.oldS s4))) rfl fun r1 w4 h hF=>X0 8 rfl (qh (t:=27) hF rfl ?_ ?_))<;>intro hF
  ·refine X0 13 rfl (qdF rfl rfl (rD (Y1 3 0 h rfl ?_)))
   refine zd2 rfl (dN h fun w5 h=>X0 5 rfl ?_)
   replace h:=h.pick [] rfl
   exact rK ⟨_,_,_,hF,rfl,h⟩ rfl
  refine X0 8 rfl (qh (t:=31) hF rfl ?_ ?_)<;>intro hF
  ·refine X1 16 0 h rfl (qk rfl hF ?_ ?_)<;>intro hF
   ·refine rD (Y1 3 0 h rfl ?_)
    refine zd2 rfl (dN h fun w6 h=>X0 5 rfl ?_)
    replace h:=h.pick [] rfl
    exact rK ⟨_,_,_,hF,rfl,h⟩ rfl
   refine X0 6 rfl ?_
   replace h:=h.pick [] rfl
   exact rK ⟨_,_,_,hF,rfl,h⟩ rfl
  refine X0 10 rfl (qbJ rfl rfl (X0 6 rfl ?_))
  replace h:=h.pick [] rfl
  exact rK ⟨_,_,_,hF,rfl,h⟩ rfl
 refine qp rfl ?_
 obtain rfl:=qc hF;replace hF:=hK1
 exact X0 5 rfl (ri h hF rfl)
def qh5 (_:Nat) (a_e:qa):Option Bool :=
 some (a_e.Ar==1)
theorem qlk {a_e:qa} (ha1:GoT.R w (old w) a_e cs1) {r:Bool} (hF:qh5 n a_e=some r):RetV Tryz.prog 94 [GoT.v qa cs1] w r:=by
 obtain ⟨p1,k1,p2,k2,p3,k3,rfl,s1,s2,s3⟩:=qJ ha1
 exact zV 6 Tryz.func94 rfl fun h=>zSR (qO h rfl rfl fun w1 bb1 h=>X1 9 0 h rfl (rb h hF rfl))
def qL (s:(List qa)):Nat→Int→Option (Flow Int Int)
 | 0,_=>none
 | n+1,i1 =>
  bif decide (i1<(s.length:Int)) then
   (idx s i1).bind fun y1 =>
   (qh5 n y1).bind fun r1 =>
   bif r1 then some (.ret i1) else
   qL s n (W64 (i1+1))
  else
   some (.nxt i1)
def qaW (n:Nat) (s:(List qa)):Option Int :=
 (qL s n 0).bind fun o=>match o with
 | .ret r=>some r
 | .nxt _ =>
  some (-1)
theorem qd4 {s:(List qa)} (ha1:GoT.R w (old w) s cs1) {r:Int} (hF:qaW n s=some r):RetV Tryz.prog 138 [GoT.v (List qa) cs1,.func (.func 94) #[] #[]] w r:=by
 obtain ⟨p1,k1,rfl,s1⟩:=ha1
 refine zV 19 Tryz.func138 rfl fun h=>X0 11 rfl ?_
 obtain ⟨o1,hF,hK1⟩:=qe hF
 refine ql (rL (fun m e w'=>∃ (i1:Int),qL s m i1=some o1∧e=[(0,.slice p1 s.length k1),(1,.func (.func 94) #[] #[]),(7,.int .i64 (s.length:Int)),(8,.int .i64 i1)]∧SH w w' []) n ⟨_,hF,rfl,h⟩ rfl ?_)
 rintro m1 e1 w1 ⟨i1,hF,rfl,h⟩
 rcases m1 with _|m1
 ·cases hF
 refine X0 5 rfl (qk rfl hF ?_ ?_)<;>intro hF
 ·refine X0 13 rfl ?_
  obtain ⟨y1,hy1,hF,he1,b1,_,q1,cs2,hp1,hq1,hr1,hc2⟩:=s1.ix hF
  obtain ⟨p2,k2,p3,k3,p4,k4,rfl,s2,s3,s4⟩:=qJ hr1
  refine zxe hp1 hq1 he1 rfl (zc 0 (hc2.below h.below) rfl (zcB h hF (qlk (qcs y1 (h.oldS s2) (h.oldS s3) (h.oldS s4))) rfl fun r1 w2 h hF=>qa5 (qk rfl hF ?_ ?_)))<;>intro hF
  ·refine X0 5 rfl ?_
   obtain rfl:=qc hF;replace hF:=hK1
   exact ri h hF rfl
  exact X0 6 rfl (rK ⟨_,hF,rfl,h⟩ rfl)
 refine qp rfl ?_
 obtain rfl:=qc hF;replace hF:=hK1
 exact X0 4 rfl (ri h hF rfl)
def qap (n:Nat) (s:(List qa)):Option Bool :=
 (qaW n s).bind fun r1 =>
 some (decide (r1 ≥ 0))
theorem qdz {s:(List qa)} (ha1:GoT.R w (old w) s cs1) {r:Bool} (hF:qap n s=some r):RetV Tryz.prog 76 [GoT.v (List qa) cs1,.func (.func 94) #[] #[]] w r:=by
 obtain ⟨p1,k1,rfl,s1⟩:=ha1
 exact zV 9 Tryz.func76 rfl fun h=>X0 8 rfl (zcI h hF (qd4 ⟨_,_,rfl,(h.oldS s1)⟩) rfl fun r1 w1 h hF=>X0 3 rfl (rb h hF rfl))
def qcd (list:(List qa)) (tag:(List Int)) (a_end:Int):Nat→(List qa)→Int→Option ((List qa) × Int)
 | 0,_,_=>none
 | n+1,x1,i1 =>
  bif decide (i1<(list.length:Int)) then
   (idx list i1).bind fun y1 =>
   (idx tag i1).bind fun y2 =>
   (qdG n y1 y2 a_end).bind fun r1 =>
   bif r1 then
    (appS x1 ([y1]:List qa)).bind fun x2 =>
    qcd list tag a_end n x2 (W64 (i1+1))
   else
    qcd list tag a_end n x1 (W64 (i1+1))
  else
   some (x1,i1)
def qck (n:Nat) (list:(List qa)) (tag:(List Int)) (a_end:Int):Option qW :=
 (qcd list tag a_end n ([]:List qa) 0).bind fun o=>match o with
 | (x1,_) =>
  (qfb n x1 3 false).bind fun r2 =>
  (qfb n x1 4 true).bind fun r3 =>
  (qap n x1).bind fun r4 =>
  (qfb n x1 2 false).bind fun r5 =>
  bif decide (r5 > 0) then
   bif (r2==(-1)) then some (⟨r4,r5,r2,r3⟩:qW) else
   some (⟨r4,1,r2,r3⟩:qW)
  else
   some (⟨r4,1,r2,r3⟩:qW)
theorem qhx {list:(List qa)} {tag:(List Int)} {a_end:Int} (ha1:GoT.R w (old w) list cs1) (ha2:GoT.R w (old w) tag cs2) {r:qW} (hF:qck n list tag a_end=some r):RetV Tryz.prog 40 [GoT.v (List qa) cs1,GoT.v (List Int) cs2,.int .i64 a_end] w r:=by
 obtain ⟨p1,k1,rfl,s1⟩:=ha1
 obtain ⟨p2,k2,rfl,s2⟩:=ha2
 refine zV 51 Tryz.func40 rfl fun h=>zSR (qB qb h rfl rfl rfl fun w1 bb1 h=>X0 12 rfl ?_)
 replace h:=SH.nilD (α:=qa) h
 obtain ⟨o1,hF,hK1⟩:=qe hF
 refine ql (rL (fun m e w'=>∃ (S1:Nat→Prop) (p3:Option Addr) (k3:Nat) (x1:(List qa)) (i1:Int),qcd list tag a_end m x1 i1=some o1∧e=[(1,.slice p2 tag.length k2),(2,.int .i64 a_end),(6,.pointer (some ⟨bb1,0,none⟩)),(7,.slice p3 x1.length k3),(12,.slice p1 list.length k1),(13,.int .i64 (list.length:Int)),(14,.int .i64 i1)]∧SH w w' [Ch.rowD w S1 (x1:List qa) p3 k3,Ch.box bb1 [.bool false,.int .i64 0,.int .i64 0,.int .i64 0] 42]) n ⟨_,_,_,_,_,hF,rfl,h⟩ rfl ?_)
 rintro m1 e1 w2 ⟨S1,p3,k3,x1,i1,hF,rfl,h⟩
 rcases m1 with _|m1
 ·cases hF
 refine X0 5 rfl (qk rfl hF ?_ ?_)<;>intro hF
 ·refine X0 6 rfl ?_
  obtain ⟨y1,hy1,hF,he1,b1,_,q1,cs3,hp1,hq1,hr1,hc2⟩:=s1.ix hF
  obtain ⟨p4,k4,p5,k5,p6,k6,rfl,s3,s4,s5⟩:=qJ hr1
  refine zxe hp1 hq1 he1 rfl (zc 0 (hc2.below h.below) rfl (qB qb h rfl rfl rfl fun w3 bb2 h=>zp1 rfl (zs 0 h rfl fun w4 h=>zNS (rD (Y1 1 0 h rfl ?_)))))
  refine zd2 rfl ?_
  obtain ⟨y2,hy2,hF,he2,b2,_,q2,cs4,hp2,hq2,rfl,hc3⟩:=s2.ix hF
  refine zdxe hp2 hq2 he2 rfl (zdc 0 (hc3.below h.below) rfl (zd1 rfl ?_))
  obtain ⟨r1,hr3,hF⟩:=qe hF
  refine qc7 r1 (vsB _) (cB 92 rfl) (fun _ hb=>qiM (qcs y1 ((h.ext hb).oldS s3) ((h.ext hb).oldS s4) ((h.ext hb).oldS s5)) hr3) rfl rfl rfl rfl (dN h fun w5 h=>qk rfl hF ?_ ?_)<;>intro hF
  ·refine X1 3 0 h rfl (qmb qb [.tmp 27] _ ([y1]:List qa) h rfl rfl rfl rfl rfl rfl rfl rfl rfl ⟨(qcs y1 s3 s4 s5),trivial⟩ rfl fun w6 p7 S2 h=>?_)
   obtain ⟨x2,hx1,hF⟩:=qe hF
   obtain ⟨g1,hx1⟩:=qr hx1
   replace h:=h.pick [0,2,1,3] rfl
   refine qtu qb h rfl rfl rfl rfl rfl rfl rfl rfl rfl rfl rfl g1 hx1 rfl fun w7 p8 k7 S3 h=>X0 7 rfl ?_
   replace h:=h.pick [0,2] rfl
   exact rK ⟨_,_,_,_,_,hF,rfl,h⟩ rfl
  refine X0 6 rfl ?_
  replace h:=h.pick [1,2] rfl
  exact rK ⟨_,_,_,_,_,hF,rfl,h⟩ rfl
 refine qp rfl ?_
 obtain rfl:=qc hF;replace hF:=hK1
 refine X0 3 rfl (zcI h hF (qhj ⟨_,_,rfl,(h.rowS 0 rfl)⟩) rfl fun r2 w8 h hF=>zp1 rfl (zcI h hF (qhj ⟨_,_,rfl,(h.rowS 0 rfl)⟩) rfl fun r3 w9 h hF=>r_v (qat qb [1,2,3] [.const (.int .i64 (1)),.tmp 32,.tmp 34] rfl rfl rfl rfl rfl rfl rfl rfl) rfl (qB qb h rfl rfl rfl fun w10 bb3 h=>zs 0 h rfl fun w11 h=>X0 4 rfl (zcB h hF (qdz ⟨_,_,rfl,(h.rowS 1 rfl)⟩) rfl fun r4 w12 h hF=>zp1 rfl (zs 0 h rfl fun w13 h=>X0 5 rfl (zcI h hF (qhj ⟨_,_,rfl,(h.rowS 1 rfl)⟩) rfl fun r5 w14 h hF=>X0 7 rfl (qh (t:=43) hF rfl ?_ ?_)))))))<;>intro hF
 ·refine X1 8 0 h rfl (qk rfl hF ?_ ?_)<;>intro hF
  ·refine X0 3 rfl (zs 0 h rfl fun w15 h=>X1 4 0 h rfl (zs 2 h rfl fun w16 h=>qa5 ?_))
   obtain rfl:=qc hF
   exact qar qb (ρ:=qW) [GoT.v qW [.bool r4,.int .i64 r5,.int .i64 r2,.int .i64 r3]] h ⟨⟨_,_,_,rfl,rfl,h.box 2 rfl,rfl⟩,trivial⟩ (PV.done h (qaD (qu (S:=fun _=>False) (qeA (⟨r4,r5,r2,r3⟩:qW)))))
  refine X1 4 0 h rfl (zs 2 h rfl fun w17 h=>qa5 ?_)
  obtain rfl:=qc hF
  exact qar qb (ρ:=qW) [GoT.v qW [.bool r4,.int .i64 1,.int .i64 r2,.int .i64 r3]] h ⟨⟨_,_,_,rfl,rfl,h.box 2 rfl,rfl⟩,trivial⟩ (PV.done h (qaD (qu (S:=fun _=>False) (qeA (⟨r4,1,r2,r3⟩:qW)))))
 refine X0 5 rfl (qbJ rfl rfl (X1 4 0 h rfl (zs 2 h rfl fun w18 h=>qa5 ?_)))
 obtain rfl:=qc hF
 exact qar qb (ρ:=qW) [GoT.v qW [.bool r4,.int .i64 1,.int .i64 r2,.int .i64 r3]] h ⟨⟨_,_,_,rfl,rfl,h.box 2 rfl,rfl⟩,trivial⟩ (PV.done h (qaD (qu (S:=fun _=>False) (qeA (⟨r4,1,r2,r3⟩:qW)))))
def qgd (n:Nat) (b:qd) (list:(List qa)) (tag:(List Int)) (a_end:Int):Option (qW × Int) :=
 (qg2 n b list a_end).bind fun o=>match o with
  | (_,r3) =>
   bif (r3 != 0) then some ((⟨false,0,0,0⟩:qW),r3) else
   (qkS n list tag).bind fun r4 =>
   bif (!r4) then some ((⟨false,0,0,0⟩:qW),2) else
   (qck n list tag a_end).bind fun r5 =>
   some (r5,0)
theorem qeX {b:qd} {list:(List qa)} {tag:(List Int)} {a_end:Int} (ha1:GoT.R w (old w) b cs1) (ha2:GoT.R w (old w) list cs2) (ha3:GoT.R w (old w) tag cs3) {r:(qW × Int)} (hF:qgd n b list tag a_end=some r):RetV Tryz.prog 10 [GoT.v qd cs1,GoT.v (List qa) cs2,GoT.v (List Int) cs3,.int .i64 a_end] w r:=by
 obtain ⟨p1,k1,p2,k2,p3,k3,p4,k4,p5,k5,rfl,s1,s2,s3,s4,s5⟩:=qD ha1
 obtain ⟨p6,k6,rfl,s6⟩:=ha2
 obtain ⟨p7,k7,rfl,s7⟩:=ha3
 refine zV 34 Tryz.func10 rfl fun h=>zSR (qO h rfl rfl fun w1 bb1 h=>qB qb h rfl rfl rfl fun w2 bb2 h=>X1 7 1 h rfl ?_)
 have hg1:Rg (old w) w (old w) w:=.start (fun _ h=>h)
 obtain ⟨r1,hr1,hF⟩:=qe hF
 obtain ⟨r2,r3⟩:=r1
 refine qkO (r2,r3) hg1 h (cB 38 rfl) (qjZ (hg1.regOld h) (hg1.inR h ha1) ⟨_,_,rfl,(hg1.inS h s6)⟩ hr1) rfl rfl rfl rfl fun w3 us1 B1 hg2 hu1 hz1 hv1=>?_
 have hL1:=h.ext hu1.below
 have s8:=Up.S hg1 h hu1 s6
 have s9:=Up.S hg1 h hu1 s7
 have hc1:=Up.box 0 h hu1 rfl
 have ha4:=Up.boxP (x:=(⟨false,0,0,0⟩:qW)) hg1 0 h hu1 rfl (qeA (⟨false,0,0,0⟩:qW))
 have hb1:=h.below.trans (hu1.below.mono h.below.size)
 replace h:=hz1
 obtain ⟨cs4,us2,rfl,hr2,hv2⟩:=qev hv1
 obtain ⟨p8,rfl,s10⟩:=qda hr2
 obtain ⟨cs5,rfl,hr3⟩:=qgt hv2
 obtain rfl:=hr3
 refine X0 14 rfl (qk rfl hF ?_ ?_)<;>intro hF
 ·refine zSR (r_v (qat qb [] [] rfl rfl rfl rfl rfl rfl rfl rfl) rfl (zp1 rfl ?_))
  replace h:=SH.back hL1 h (show NoD [] from trivial)
  refine zs 0 h rfl fun w5 h=>X0 2 rfl ?_
  replace h:=h.unbase hg1.below ⟨fun _ h=>h,⟨fun _ h=>h,trivial⟩⟩
  obtain rfl:=qc hF
  exact qar qb (ρ:=(qW × Int)) [GoT.v qW [.bool false,.int .i64 0,.int .i64 0,.int .i64 0],GoT.v Int [.int .i64 r3]] h ⟨⟨_,_,_,rfl,rfl,h.box 0 rfl,rfl⟩,rfl,trivial⟩ (PV.done h (qaC h (qu (S:=fun _=>False) (qeA (⟨false,0,0,0⟩:qW))) (qaD (qu (S:=fun _=>False) rfl)) (by rfl)))
 refine X0 4 rfl (zcB h hF (qoO ⟨_,_,rfl,(h.oldS (s8.mono hg2.old))⟩ ⟨_,_,rfl,(h.oldS (s9.mono hg2.old))⟩) rfl fun r4 w6 h hF=>X0 3 rfl (qk rfl hF ?_ ?_))<;>intro hF
 ·refine zSR (r_v (qat qb [] [] rfl rfl rfl rfl rfl rfl rfl rfl) rfl ?_)
  replace h:=SH.back hL1 h (show NoD [] from trivial)
  refine zs 0 h rfl fun w8 h=>X0 2 rfl ?_
  replace h:=h.unbase hg1.below ⟨fun _ h=>h,⟨fun _ h=>h,trivial⟩⟩
  obtain rfl:=qc hF
  exact qar qb (ρ:=(qW × Int)) [GoT.v qW [.bool false,.int .i64 0,.int .i64 0,.int .i64 0],GoT.v Int [.int .i64 2]] h ⟨⟨_,_,_,rfl,rfl,h.box 0 rfl,rfl⟩,rfl,trivial⟩ (PV.done h (qaC h (qu (S:=fun _=>False) (qeA (⟨false,0,0,0⟩:qW))) (qaD (qu (S:=fun _=>False) rfl)) (by rfl)))
 refine X0 7 rfl (zcO h hF (qhx ⟨_,_,rfl,(h.oldS (s8.mono hg2.old))⟩ ⟨_,_,rfl,(h.oldS (s9.mono hg2.old))⟩) rfl fun r5 w9 S1 cs6 h hF=>?_)
 obtain rfl:=qeB (h.own 0 rfl)
 replace h:=SH.back hL1 h ⟨fun _ h=>h,trivial⟩
 refine zs 1 h rfl fun w11 h=>X0 2 rfl ?_
 replace h:=h.unbase hg1.below ⟨fun _ h=>h,⟨fun _ h=>h,⟨fun _ h=>h,trivial⟩⟩⟩
 obtain rfl:=qc hF
 exact qar qb (ρ:=(qW × Int)) [GoT.v qW (qjp r5),GoT.v Int [.int .i64 0]] h ⟨⟨_,_,_,rfl,rfl,h.box 1 rfl,rfl⟩,rfl,trivial⟩ (PV.done h (qaC h (qC 0 h rfl) (qaD (qu (S:=fun _=>False) rfl)) (by rfl)))
def qhJ (n:Nat) (b:qd) (list:(List qa)) (path:(List Int)):Option (qW × Int) :=
 (qcT n b list).bind fun o=>match o with
  | (r2,r3) =>
   bif (r3 != 0) then some ((⟨false,0,0,0⟩:qW),r3) else
   (qc2 n r2 path).bind fun r4 =>
   bif (!r4) then some ((⟨false,0,0,0⟩:qW),2) else
   (idx path (W64 ((path.length:Int)-1))).bind fun y1 =>
   (qf0 n list path).bind fun r5 =>
   (qck n list r5 y1).bind fun r6 =>
   some (r6,0)
theorem qmd {b:qd} {list:(List qa)} {path:(List Int)} (ha1:GoT.R w (old w) b cs1) (ha2:GoT.R w (old w) list cs2) (ha3:GoT.R w (old w) path cs3) {r:(qW × Int)} (hF:qhJ n b list path=some r):RetV Tryz.prog 11 [GoT.v qd cs1,GoT.v (List qa) cs2,GoT.v (List Int) cs3] w r:=by
 obtain ⟨p1,k1,p2,k2,p3,k3,p4,k4,p5,k5,rfl,s1,s2,s3,s4,s5⟩:=qD ha1
 obtain ⟨p6,k6,rfl,s6⟩:=ha2
 obtain ⟨p7,k7,rfl,s7⟩:=ha3
 refine zV 38 Tryz.func11 rfl fun h=>zSR (qO h rfl rfl fun w1 bb1 h=>qB qb h rfl rfl rfl fun w2 bb2 h=>X1 6 1 h rfl ?_)
 have hg1:Rg (old w) w (old w) w:=.start (fun _ h=>h)
 obtain ⟨r1,hr1,hF⟩:=qe hF
 obtain ⟨r2,r3⟩:=r1
 refine qkO (r2,r3) hg1 h (cB 31 rfl) (qfH (hg1.regOld h) (hg1.inR h ha1) ⟨_,_,rfl,(hg1.inS h s6)⟩ hr1) rfl rfl rfl rfl fun w3 us1 B1 hg2 hu1 hz1 hv1=>?_
 have hL1:=h.ext hu1.below
 have s8:=Up.S hg1 h hu1 s6
 have s9:=Up.S hg1 h hu1 s7
 have hc1:=Up.box 0 h hu1 rfl
 have ha4:=Up.boxP (x:=(⟨false,0,0,0⟩:qW)) hg1 0 h hu1 rfl (qeA (⟨false,0,0,0⟩:qW))
 have hb1:=h.below.trans (hu1.below.mono h.below.size)
 replace h:=hz1
 obtain ⟨cs4,us2,rfl,hr2,hv2⟩:=qev hv1
 obtain ⟨p8,rfl,s10⟩:=qda hr2
 obtain ⟨cs5,rfl,hr3⟩:=qgt hv2
 obtain rfl:=hr3
 refine X0 14 rfl (qk rfl hF ?_ ?_)<;>intro hF
 ·refine zSR (r_v (qat qb [] [] rfl rfl rfl rfl rfl rfl rfl rfl) rfl (zp1 rfl ?_))
  replace h:=SH.back hL1 h (show NoD [] from trivial)
  refine zs 0 h rfl fun w5 h=>X0 2 rfl ?_
  replace h:=h.unbase hg1.below ⟨fun _ h=>h,⟨fun _ h=>h,trivial⟩⟩
  obtain rfl:=qc hF
  exact qar qb (ρ:=(qW × Int)) [GoT.v qW [.bool false,.int .i64 0,.int .i64 0,.int .i64 0],GoT.v Int [.int .i64 r3]] h ⟨⟨_,_,_,rfl,rfl,h.box 0 rfl,rfl⟩,rfl,trivial⟩ (PV.done h (qaC h (qu (S:=fun _=>False) (qeA (⟨false,0,0,0⟩:qW))) (qaD (qu (S:=fun _=>False) rfl)) (by rfl)))
 refine X0 4 rfl (zcB h hF (qgW (h.old (GoT.mono s10 hg2.old)) ⟨_,_,rfl,(h.oldS (s9.mono hg2.old))⟩) rfl fun r4 w6 h hF=>X0 3 rfl (qk rfl hF ?_ ?_))<;>intro hF
 ·refine zSR (r_v (qat qb [] [] rfl rfl rfl rfl rfl rfl rfl rfl) rfl ?_)
  replace h:=SH.back hL1 h (show NoD [] from trivial)
  refine zs 0 h rfl fun w8 h=>X0 2 rfl ?_
  replace h:=h.unbase hg1.below ⟨fun _ h=>h,⟨fun _ h=>h,trivial⟩⟩
  obtain rfl:=qc hF
  exact qar qb (ρ:=(qW × Int)) [GoT.v qW [.bool false,.int .i64 0,.int .i64 0,.int .i64 0],GoT.v Int [.int .i64 2]] h ⟨⟨_,_,_,rfl,rfl,h.box 0 rfl,rfl⟩,rfl,trivial⟩ (PV.done h (qaC h (qu (S:=fun _=>False) (qeA (⟨false,0,0,0⟩:qW))) (qaD (qu (S:=fun _=>False) rfl)) (by rfl)))
 refine X0 3 rfl ?_
 replace h:=SH.back hL1 h (show NoD [] from trivial)
 refine rA [] [] h rfl fun w9 h=>M0 247 [0,1,2,4,5,6,7] (h.pick [] rfl) rfl ?_
 obtain ⟨y1,hy1,hF,he1,b1,_,q1,cs6,hp1,hq1,rfl,hc4⟩:=s7.ix hF
 refine Ae 8 503 hp1 hq1 he1 (h.pick [] rfl) rfl (Al 9 1015 0 hc4 (h.pick [] rfl) rfl (Ao 3 1023 rfl (zcL h hF (qi3 ⟨_,_,rfl,(h.oldS (s6.mono hg1.old))⟩ ⟨_,_,rfl,(h.oldS (s7.mono hg1.old))⟩) rfl fun r5 w10 S1 p9 k8 h hF=>Ag (h.pick [] rfl) (Ao 10 2047 rfl (zcO h hF (qhx ⟨_,_,rfl,(h.oldS (s6.mono hg1.old))⟩ (h.own 0 rfl)) rfl fun r6 w11 S2 cs7 h hF=>?_)))))
 obtain rfl:=qeB (h.own 0 rfl)
 refine Ag (h.pick [] rfl) (Ao 11 4095 rfl (zs 2 h rfl fun w12 h=>G0 8191 [12] (h.pick [] rfl) rfl (Ad ?_)))
 replace h:=h.unbase hg1.below ⟨fun _ h=>h,⟨fun _ h=>h,⟨fun _ h=>h,⟨fun _ h=>h,trivial⟩⟩⟩⟩
 obtain rfl:=qc hF
 exact qar qb (ρ:=(qW × Int)) [GoT.v qW (qjp r6),GoT.v Int [.int .i64 0]] h ⟨⟨_,_,_,rfl,rfl,h.box 2 rfl,rfl⟩,rfl,trivial⟩ (PV.done h (qaC h (qC 0 h rfl) (qaD (qu (S:=fun _=>False) rfl)) (by rfl)))
def qik (n:Nat) (b:qd) (list:(List qa)) (place:Int):Option Int :=
 (qhb n b list).bind fun r1 =>
 bif (r1==0) then
  (qab n b).bind fun r2 =>
  (qao n place 0 (W64 (r2-1))).bind fun r3 =>
  bif (!r3) then some 2 else
  some r1
 else
  some r1
theorem qmE {b:qd} {list:(List qa)} {place:Int} (ha1:GoT.R w (old w) b cs1) (ha2:GoT.R w (old w) list cs2) {r:Int} (hF:qik n b list place=some r):RetV Tryz.prog 44 [GoT.v qd cs1,GoT.v (List qa) cs2,.int .i64 place] w r:=by
 obtain ⟨p1,k1,p2,k2,p3,k3,p4,k4,p5,k5,rfl,s1,s2,s3,s4,s5⟩:=qD ha1
 obtain ⟨p6,k6,rfl,s6⟩:=ha2
 refine zV 22 Tryz.func44 rfl fun h=>zSR (qO h rfl rfl fun w1 bb1 h=>X1 6 0 h rfl (zcI h hF (qj1 (h.old ha1) ⟨_,_,rfl,(h.oldS s6)⟩) rfl fun r1 w2 h hF=>X0 8 rfl (qh (t:=13) hF rfl ?_ ?_)))<;>intro hF
 ·refine X1 5 0 h rfl (zcI h hF (qaK (h.old ha1)) rfl fun r2 w3 h hF=>X0 3 rfl (zcB h hF qU rfl fun r3 w4 h hF=>X0 4 rfl (qk rfl hF ?_ ?_)))<;>intro hF
  ·exact X0 4 rfl (ri h hF rfl)
  exact X0 6 rfl (ri h hF rfl)
 exact X0 8 rfl (qbJ rfl rfl (X0 6 rfl (ri h hF rfl)))
def qdm (list:(List qa)) (tag:(List Int)) (place:Int):Nat→(List Int)→Int→Option ((List Int) × Int)
 | 0,_,_=>none
 | n+1,x1,i1 =>
  bif decide (i1<(list.length:Int)) then
   (idx list i1).bind fun y1 =>
   (idx tag i1).bind fun y2 =>
   (qbO n y1 y2 place).bind fun r2 =>
   (idx x1 i1).bind fun _ =>
   qdm list tag place n (setS x1 i1 r2) (W64 (i1+1))
  else
   some (x1,i1)
def qii (n:Nat) (list:(List qa)) (tag:(List Int)) (place:Int):Option (List Int) :=
 (qcM n tag).bind fun r1 =>
 (qdm list tag place n r1 0).bind fun o=>match o with
 | (x1,_) =>
  some x1
theorem qmI {list:(List qa)} {tag:(List Int)} {place:Int} (ha1:GoT.R w (old w) list cs1) (ha2:GoT.R w (old w) tag cs2) {r:(List Int)} (hF:qii n list tag place=some r):RetV Tryz.prog 103 [GoT.v (List qa) cs1,GoT.v (List Int) cs2,.int .i64 place] w r:=by
 obtain ⟨p1,k1,rfl,s1⟩:=ha1
 obtain ⟨p2,k2,rfl,s2⟩:=ha2
 refine zV 31 Tryz.func103 rfl fun h=>X0 7 rfl (zcL h hF (qhl ⟨_,_,rfl,(h.oldS s2)⟩) rfl fun r1 w1 S1 p3 k3 h hF=>X0 9 rfl ?_)
 obtain ⟨o1,hF,hK1⟩:=qe hF
 refine ql (rL (fun m e w'=>∃ (x1:(List Int)) (i1:Int),qdm list tag place m x1 i1=some o1∧e=[(1,.slice p2 tag.length k2),(2,.int .i64 place),(7,.slice p3 r1.length k3),(12,.slice p1 list.length k1),(13,.int .i64 (list.length:Int)),(14,.int .i64 i1)]∧SH w w' [Ch.own S1 (x1:List Int) [.slice p3 r1.length k3]]) n ⟨_,_,hF,rfl,h⟩ rfl ?_)
 rintro m1 e1 w2 ⟨x1,i1,hF,rfl,h⟩
 rcases m1 with _|m1
 ·cases hF
 refine X0 5 rfl (qk rfl hF ?_ ?_)<;>intro hF
 ·refine X0 6 rfl ?_
  obtain ⟨y1,hy1,hF,he1,b1,_,q1,cs3,hp1,hq1,hr2,hc2⟩:=s1.ix hF
  obtain ⟨p4,k4,p5,k5,p6,k6,rfl,s3,s4,s5⟩:=qJ hr2
  refine zxe hp1 hq1 he1 rfl (zc 0 (hc2.below h.below) rfl (qB qb h rfl rfl rfl fun w3 bb1 h=>zp1 rfl (zs 0 h rfl fun w4 h=>qa5 (rA [] [0] h rfl fun w5 h=>M1 31 [0,1,2,3,4] 0 (h.pick [0] rfl) rfl ?_))))
  obtain ⟨y2,hy2,hF,he2,b2,_,q2,cs4,hp2,hq2,rfl,hc3⟩:=s2.ix hF
  refine Ae 5 63 hp2 hq2 he2 (h.pick [0] rfl) rfl (Al 6 127 0 hc3 (h.pick [0] rfl) rfl (M0 255 [7] (h.pick [0] rfl) rfl (Ao 8 511 rfl (zcI h hF (qdK (qcs y1 (h.oldS s3) (h.oldS s4) (h.oldS s5))) rfl fun r2 w6 h hF=>Ag (h.pick [0] rfl) ?_))))
  obtain ⟨y3,hy3,hF,he3,b3,_,q3,cs5,hp3,hq3,rfl,hc4⟩:=(h.sl 1 rfl).1.ix hF
  refine Ax 9 1023 hp3 hq3 ⟨he3.1,qI he3.2.1 (h.sl 1 rfl).2⟩ (h.pick [0] rfl) rfl (Ao 10 2047 rfl (qbE qb 1 0 r2 h rfl hy3 hp3 hq3 rfl hc4 rfl rfl rfl rfl rfl rfl rfl fun w7 h=>Ag (h.pick [0] rfl) (Ad (X0 5 rfl ?_))))
  replace h:=h.pick [1] rfl
  exact rK ⟨_,_,hF,rfl,h⟩ rfl
 refine qp rfl ?_
 obtain rfl:=qc hF;replace hF:=hK1
 refine X0 5 rfl ?_
 obtain rfl:=qc hF
 exact rO 0 h rfl ⟨rfl,trivial⟩
end Go.Fw


namespace Go.Fw
open Go
set_option maxRecDepth 100000
def codeX (b:qd) (es:List qa):Int:=bif blockB b then (bif decide (es.length≤6) then (bif es.all (excB b) then 0 else 5) else 3) else 1
def codeP (b:qd) (es:List qa) (p:Int):Int:=bif codeX b es==0 then (bif inPl b p then codeX b es else 2) else codeX b es
theorem qfV {b:qd} {es:List qa} (h:codeX b es=0):blockB b=true∧es.length≤6∧es.all (excB b)=true:=by
 unfold codeX at h
 cases h1:blockB b
 ·rw [h1] at h;cases h
 ·rw [h1] at h
  cases h2:decide (es.length≤6)
  ·rw [h2] at h;cases h
  ·rw [h2] at h
   cases h3:es.all (excB b)
   ·rw [h3] at h;cases h
   ·exact ⟨rfl,of_decide_eq_true h2,rfl⟩
theorem qjH {b:qd} {es:List qa} {p:Int} (h:codeP b es p=0):codeX b es=0:=by
 unfold codeP at h
 by_cases h0:codeX b es=0
 ·exact h0
 ·rw [show (codeX b es==0)=false by simpa using h0] at h
  exact h
theorem qnq {b:qd} {es:List qa} (hok:qbn b) (hes:okL qG es):Ev (fun n=>qhb n b es) (codeX b es):=by
 have hlen:=hes.len
 unfold qhb codeX
 refine Ev.chk1 (qh1 hok) fun h=>?_
 rw [show decide ((es.length:Int) > 6) = !decide (es.length≤6) from qjQ (k:=6)]
 simp only [qaQ]
 refine Ev.okP1 fun _=>?_
 have hL:Ev (fun n=>qes b es n 0) (bif es.all (excB b) then .nxt (es.length:Int) else .ret 5):=by
  rw [qhr]
  refine qee (Ev.succ ?_) (fun j hj X hX=>Ev.succ ?_)
  ·simp only [qes,qj (jf _),cond_false];exact .done
  ·simp only [qes,qi hj,cond_true,qaa hj,je,wS j]
   have:=qmC hok (qhm hes hj)
   rw [h,jJ] at this
   exact Ev.chk1 this fun _=>hX
 refine Ev.bind hL ?_
 cases es.all (excB b)<;>exact .done
theorem qpF {b:qd} {es:List qa} (hok:qbn b) (hes:okL qG es) :
  ∃ o,Ev (fun n=>qcT n b es) (o,codeX b es)∧(codeX b es=0→∃ ls lo de,o=some ⟨b,places b.Aa,ls,lo,de,[]⟩):=by
 have hlen:=hes.len
 unfold qcT codeX
 cases h:blockB b
 ·exact ⟨none,Ev.bind (qm6 hok) (Ev.tt (by rw [h];rfl) .done),fun h=>by cases h⟩
 ·have hb:=qm6 hok
  rw [h] at hb
  obtain ⟨ls,lo,de,ev⟩:=qqc h
  cases h6:decide (es.length≤6)
  ·exact ⟨none,Ev.bind hb (Ev.ff rfl (Ev.tt (by rw [show decide ((es.length:Int) > 6) = !decide (es.length≤6) from qjQ (k:=6),h6];rfl) .done)),fun h=>by cases h⟩
  ·have hc:Ev (fun n=>qad n es (some ⟨b,places b.Aa,ls,lo,de,[]⟩)) (!es.all (excB b)):=by
    unfold qad
    refine Ev.bind (b:=ixL (fun e=>!excB b e) es) (qdA (fin:=(es.length:Int)) (Lf:=qF es (some ⟨b,places b.Aa,ls,lo,de,[]⟩))
     (pf:=fun n x=>qeE n x (some ⟨b,places b.Aa,ls,lo,de,[]⟩)) (fun x hx=>?_)
     (fun n=>by simp only [qF,qj (jf _),cond_false])
     (fun n j x hx=>by
      have hj:=(List.getElem?_eq_some_iff.1 hx).1
      simp only [qF,qi hj,cond_true,qfY hx,je,wS j])
     (fun n=>by unfold qaG;congr 1;funext o;cases o<;>rfl)) (Ev.now ?_)
    ·unfold qeE
     exact Ev.neg (qnd h rfl (hes.2 x hx))
    ·rw [qh4,←qlI,Bool.not_not]
   cases h3:es.all (excB b)
   ·rw [h3] at hc
    exact ⟨none,Ev.bind hb (Ev.ff rfl (Ev.ff (by rw [show decide ((es.length:Int) > 6) = !decide (es.length≤6) from qjQ (k:=6),h6];rfl) (Ev.bind ev (Ev.bind hc .done)))),fun h=>by cases h⟩
   ·rw [h3] at hc
    exact ⟨_,Ev.bind hb (Ev.ff rfl (Ev.ff (by rw [show decide ((es.length:Int) > 6) = !decide (es.length≤6) from qjQ (k:=6),h6];rfl) (Ev.bind ev (Ev.bind hc .done)))),fun _=>⟨ls,lo,de,rfl⟩⟩
theorem qoq {b:qd} (h:blockB b=true):Ev (fun n=>qab n b) ((places b.Aa).length:Int):=by
 unfold qab
 exact Ev.bind (qfn (qw (qE h))) (Ev.now (by rw [jH]))
theorem qpZ {b:qd} {es:List qa} {p:Int} (hok:qbn b) (hes:okL qG es):Ev (fun n=>qik n b es p) (codeP b es p):=by
 unfold qik codeP
 refine Ev.bind (qnq hok hes) ?_
 refine Ev.iff (fun h0=>?_) fun _=>.done
 have h0:codeX b es=0:=by simpa using h0
 have h:=(qfV h0).1
 have hpl:=qM (qw (qE h))
 refine Ev.bind (qoq h) ?_
 rw [qbc (by omega)]
 simp only [qdE,je,qaQ]
 exact Ev.iff (fun _=>.done) fun _=>.done
theorem qpJ {b:qd} {V:Tview} {p:Int} (h:blockB b=true) (hP:V.places=places b.Aa):Ev (fun n=>qfL n (some V) p) (inPl b p):=by
 have hpl:=qM (qw (qE h))
 refine Ev.now (x:=some (inPl b p)) rfl |>.congr fun n=>?_
 unfold qfL
 simp only [je,qaI,hP,qcN]
 rw [qbc (by omega)]
 rfl
theorem qpr {b:qd} {es:List qa} {p:Int} (hok:qbn b) (hes:okL qG es) :
  ∃ o,Ev (fun n=>qg2 n b es p) (o,codeP b es p)∧(codeP b es p=0→∃ ls lo de,o=some ⟨b,places b.Aa,ls,lo,de,[]⟩):=by
 obtain ⟨o,e,hv⟩:=qpF hok hes
 unfold qg2 codeP
 by_cases h0:codeX b es=0
 ·obtain ⟨ls,lo,de,rfl⟩:=hv h0
  rw [h0] at e ⊢
  have hi:=qpJ (V:=⟨b,places b.Aa,ls,lo,de,[]⟩) (p:=p) (qfV h0).1 rfl
  cases hp:inPl b p
  ·rw [hp] at hi
   exact ⟨none,Ev.bind e (Ev.tt rfl (Ev.bind hi .done)),fun h=>by cases h⟩
  ·rw [hp] at hi
   exact ⟨_,Ev.bind e (Ev.tt rfl (Ev.bind hi .done)),fun _=>⟨ls,lo,de,rfl⟩⟩
 ·have hc:(codeX b es==0)=false:=by simpa using h0
  rw [hc]
  exact ⟨o,Ev.bind e (Ev.ff hc .done),fun h=>absurd h h0⟩
def stepTs (es:List qa) (tag:List Int) (p:Int):List Int:=(List.range es.length).map fun i=>stepT (gt es i) (at0 tag i) p
def startTs (es:List qa) (p:Int):List Int:=es.map fun e=>beginT e p
theorem qjT {es:List qa} {tag:List Int} {p:Int}:(stepTs es tag p).length=es.length:=by simp [stepTs]
def pre {α:Type} (f:Nat→α) (j:Nat):List α:=(List.range j).map f
theorem qqQ {α:Type} {f:Nat→α} {j:Nat}:(pre f j).length=j:=by simp [pre]
theorem qsu {α:Type} {f:Nat→α} {j:Nat}:pre f j++[f j]=pre f (j+1):=by unfold pre;rw [jY,jX];rfl
theorem qqC {α:Type} {f:Nat→α} {j:Nat} (h:j≤1048576):appS (pre f j) [f j]=some (pre f (j+1)):=by
 rw [qbL (by rw [qqQ,jk];omega),qsu]
theorem qqx {α β:Type} [Inhabited α] {xs:List α} {f:α→β}:pre (fun i=>f (gt xs i)) xs.length=xs.map f:=by
 refine Jh (by simp [pre]) fun i h1 h2=>?_
 have hi:i<xs.length:=by simpa [pre] using h1
 simp [pre,qhS hi]
theorem qpv {es:List qa} {tag:List Int} {p:Int} (hes:okL qG es) (ht:tag.length=es.length):Ev (fun n=>qgf n es tag p) (stepTs es tag p):=by
 have hl:=hes.len
 have hL:Ev (fun n=>qcH es tag p n ([]:List Int) 0) (stepTs es tag p,(es.length:Int)):=by
  refine loopF (Lf:=qcH es tag p) (S:=pre fun i=>stepT (gt es i) (at0 tag i) p) (len:=es.length) (fun n=>?_) (fun j hj X hX=>?_)
  ·simp only [qcH,qj (jf _),cond_false];rfl
  ·have hT:=(qhm hes hj).Am.len
   have hap:=qqC (f:=fun i=>stepT (gt es i) (at0 tag i) p) (show j≤1048576 by omega)
   have hst:stepT (gt es j) (at0 tag j) p=bif decide (at0 tag j ≥ 0)&&(decide (at0 tag j<((gt es j).Am.length:Int))&&(at0 (gt es j).Am (at0 tag j).toNat==p)) then at0 tag j+1 else at0 tag j:=rfl
   simp only [qcH,qi hj,cond_true,qaa hj,qaN (show j<tag.length by omega),je,wS j]
   rw [hst] at hap
   cases h1:decide (at0 tag j ≥ 0)
   ·rw [h1] at hap
    exact Ev.bindN rfl (Ev.ff rfl (Ev.bindN hap hX))
   ·cases h2:decide (at0 tag j<((gt es j).Am.length:Int))
    ·rw [h1,h2] at hap
     exact Ev.bindN rfl (Ev.ff rfl (Ev.bindN hap hX))
    ·have h1':=of_decide_eq_true h1
     have h2':=of_decide_eq_true h2
     obtain ⟨k,hk⟩:∃ k:Nat,at0 tag j=(k:Int):=⟨(at0 tag j).toNat,by omega⟩
     rw [h1,h2,hk,jC] at hap
     rw [hk] at h2'
     rw [hk]
     simp only [cond_true,qaN (show k<(gt es j).Am.length by omega),je]
     cases h3:(at0 (gt es j).Am k==p)
     ·rw [h3] at hap
      exact Ev.ff rfl (Ev.bindN hap hX)
     ·rw [h3] at hap
      rw [qaz (show -9223372036854775808≤(k:Int)+1 by omega) (by omega)]
      exact Ev.tt rfl (Ev.bindN hap hX)
 unfold qgf
 exact Ev.bind hL .done
theorem qpg {es:List qa} {tag:List Int} {p:Int} (hes:okL qG es) (ht:tag.length=es.length):Ev (fun n=>qii n es tag p) (stepTs es tag p):=by
 have hl:=hes.len
 have hcl:qcM 0 tag=some tag:=by
  show appS [] tag=some tag
  rw [qbL (by simp;omega)];rfl
 have hL:Ev (fun n=>qdm es tag p n tag 0) (stepTs es tag p,(es.length:Int)):=by
  have:=loopF (Lf:=qdm es tag p) (S:=mixS (fun i=>stepT (gt es i) (at0 tag i) p) tag) (len:=es.length) (fin:=(stepTs es tag p,(es.length:Int))) (fun n=>by
    simp only [qdm,qj (jf _),cond_false]
    rw [←ht,qqZ,ht];rfl)
   (fun j hj X hX=>by
    have hjt:j<tag.length:=by omega
    simp only [qdm,qi hj,cond_true,qaa hj,qaN hjt,je,wS j,qsZ hjt]
    refine Ev.bind (qoN (qhm hes hj).Am.len) ?_
    rw [qst hjt]
    exact hX)
  rwa [qrC] at this
 unfold qii
 exact Ev.bind (f:=fun _=>qcM 0 tag) (Ev.now hcl) (Ev.bind hL .done)
theorem qpH {es:List qa} {p:Int}:(startTs es p).length=es.length:=by simp [startTs]
theorem qq9 {es:List qa} {p:Int} (hes:okL qG es):Ev (fun n=>qgz n es p) (startTs es p):=by
 have hl:=hes.len
 have hL:Ev (fun n=>qca es p n ([]:List Int) 0) (pre (fun i=>bif fromB (gt es i) p then 0 else -1) es.length,(es.length:Int)):=by
  refine loopF (Lf:=qca es p) (S:=pre fun i=>bif fromB (gt es i) p then 0 else -1) (len:=es.length) (fun n=>?_) (fun j hj X hX=>?_)
  ·simp only [qca,qj (jf _),cond_false]
  ·have hap:=qqC (f:=fun i=>(bif fromB (gt es i) p then 0 else -1:Int)) (show j≤1048576 by omega)
   simp only [qca,qi hj,cond_true,qaa hj,je,wS j]
   refine Ev.bind (b:=!fromB (gt es j) p) ?_ ?_
   ·unfold fromB
    by_cases h0:(gt es j).As.length=0
    ·exact Ev.ff (by simp [h0]) (Ev.now (by rw [decide_eq_true h0];rfl))
    ·refine Ev.tt (by simp;omega) ?_
     rw [decide_eq_false h0,Jl]
     exact Ev.bind (qn8 (qhm hes hj).As.len) (Ev.now (by rw [qr5];rfl))
   ·cases h3:fromB (gt es j) p
    ·simp only [h3,cond_false] at hap
     exact Ev.tt rfl (Ev.bindN hap hX)
    ·simp only [h3,cond_true] at hap
     exact Ev.ff rfl (Ev.bindN hap hX)
 unfold qgz
 refine Ev.bind hL (Ev.bind (qpv hes (by rw [qqQ])) (Ev.now ?_))
 congr 1
 unfold startTs
 rw [←qqx]
 unfold stepTs
 refine List.map_congr_left fun i hi=>?_
 have hi:=List.mem_range.1 hi
 rw [show at0 (pre (fun i=>(bif fromB (gt es i) p then 0 else -1:Int)) es.length) i=bif fromB (gt es i) p then 0 else -1 by simp [at0,pre,hi]]
 unfold beginT
 cases fromB (gt es i) p
 ·exact qrz
 ·rfl
theorem qqT {e:qa} {path:List Int} {p:Int} (h:1≤path.length):runT e (path++[p])=stepT e (runT e path) p:=by
 cases path with
 | nil=>simp at h
 | cons q path =>
  unfold runT
  simp [List.foldl_append,at0]
def runTs (es:List qa) (path:List Int):List Int:=es.map fun e=>runT e path
theorem qju {es:List qa} {path:List Int}:(runTs es path).length=es.length:=by simp [runTs]
theorem qp1 {es:List qa} {path:List Int} {p:Int} (h:1≤path.length):stepTs es (runTs es path) p=runTs es (path++[p]):=by
 unfold runTs
 rw [←qqx (f:=fun e=>runT e (path++[p]))]
 refine List.map_congr_left fun i hi=>?_
 have hi:=List.mem_range.1 hi
 rw [qqT h]
 congr 1
 simp [at0,hi,qhS hi]
def rankE (e:qa):Int:=(bif decide (e.As.length=0) then 0 else 4)+(bif decide (e.To.length=0) then 0 else 2)+(bif decide (e.Am.length=0) then 0 else 1)
theorem posL {xs:List Int}:decide ((xs.length:Int) > 0) = !decide (xs.length=0):=by cases xs<;>simp
theorem qrI {e:qa}:Ev (fun n=>qiO n e) (rankE e):=by
 unfold qiO rankE
 refine ⟨4,fun n hn=>?_⟩
 obtain ⟨m,rfl⟩:∃ m,n=m+4:=⟨n-4,by omega⟩
 simp only [qf5]
 have i0:idx ([e.Am,e.To,e.As]:List (List Int)) 0=some e.Am:=rfl
 have i1:idx ([e.Am,e.To,e.As]:List (List Int)) (W64 (0+1))=some e.To:=rfl
 have i2:idx ([e.Am,e.To,e.As]:List (List Int)) (W64 (W64 (0+1)+1))=some e.As:=rfl
 simp only [i0,i1,i2,posL,je]
 cases decide (e.As.length=0)<;>cases decide (e.To.length=0)<;>cases decide (e.Am.length=0)<;>rfl
def pickS (k:Int) (g:Bool) (t:Int × Int) (e:qa):Int × Int :=
 bif e.Ar != k then t else bif decide (rankE e > t.1) || ((rankE e==t.1)&&(decide (e.Bc > t.2)==g)) then (rankE e,e.Bc) else t
def chooseL (k:Int) (g:Bool) (ms:List qa):Int × Int:=ms.foldl (pickS k g) (-1,-1)
theorem qjI {ms:List qa} {k:Int} {g:Bool} (hl:ms.length≤1048576):Ev (fun n=>qfb n ms k g) (chooseL k g ms).2:=by
 have hL:Ev (fun n=>qaY ms k g n (-1) (-1) 0) ((chooseL k g ms).1,(chooseL k g ms).2,(ms.length:Int)):=by
  refine (qrA (xs:=ms) (τ:=Int × Int) (Lf:=fun n t j=>qaY ms k g n t.1 t.2 j) (step:=pickS k g) (fin:=fun t=>(t.1,t.2,(ms.length:Int))) (-1,-1) (fun _ _=>True) trivial (fun _ _ _ _=>trivial) (fun n t=>?_) (fun j t hj _ X hX=>?_)).1
  ·simp only [qaY,qj (jf _),cond_false]
  ·simp only [qaY,qi hj,cond_true,qZ hj,je,wS j]
   unfold pickS at hX
   refine Ev.bif (fun h1=>?_) (fun h1=>?_)
   ·rw [h1] at hX;exact hX
   ·rw [h1] at hX
    refine Ev.bind qrI (Ev.bif (fun h2=>?_) (fun h2=>?_))
    ·rw [h2] at hX;exact hX
    ·rw [h2] at hX
     refine Ev.bif (fun h3=>?_) (fun h3=>?_)
     ·rw [h3] at hX
      refine Ev.bif (fun h4=>?_) (fun h4=>?_)
      ·rw [h4] at hX;exact hX
      ·rw [h4] at hX;exact hX
     ·rw [h3] at hX;exact hX
 unfold qfb
 exact Ev.bind hL .done
def selE (es:List qa) (m:Nat→Bool) (j:Nat):List qa:=(selN m j).map (gt es)
theorem qqU {es:List qa} {m:Nat→Bool} {j:Nat}:selE es m (j+1)=selE es m j++(bif m j then [gt es j] else []):=by
 unfold selE
 rw [ql1,jX]
 cases m j<;>rfl
theorem qo1 {es:List qa} {m:Nat→Bool} {j:Nat}:(selE es m j).length≤j:=by unfold selE;rw [jH];exact qnl
def effE (ms:List qa):qW:=⟨ms.any fun e=>e.Ar==1,bif decide ((chooseL 2 false ms).2 > 0)&&((chooseL 3 false ms).2==-1) then (chooseL 2 false ms).2 else 1,(chooseL 3 false ms).2,(chooseL 4 true ms).2⟩
theorem qlh {es:List qa} {tag:List Int} {p:Int} (hes:okL qG es) (ht:tag.length=es.length):Ev (fun n=>qck n es tag p) (effE (selE es (fun i=>matT (gt es i) (at0 tag i) p) es.length)):=by
 have hl:=hes.len
 have hL:Ev (fun n=>qcd es tag p n ([]:List qa) 0) (selE es (fun i=>matT (gt es i) (at0 tag i) p) es.length,(es.length:Int)):=by
  refine loopF (Lf:=qcd es tag p) (S:=selE es (fun i=>matT (gt es i) (at0 tag i) p)) (len:=es.length) (fun n=>?_) (fun j hj X hX=>?_)
  ·simp only [qcd,qj (jf _),cond_false]
  ·have hsl:=qo1 (es:=es) (m:=fun i=>matT (gt es i) (at0 tag i) p) (j:=j)
   simp only [qcd,qi hj,cond_true,qaa hj,qaN (show j<tag.length by omega),je,wS j]
   refine Ev.bind (qqa (qhm hes hj)) ?_
   rw [qqU] at hX
   cases h1:matT (gt es j) (at0 tag j) p
   ·simp only [h1,cond_false,jT] at hX
    exact Ev.ff rfl hX
   ·simp only [h1,cond_true] at hX
    exact Ev.tt rfl (Ev.bindN (qbL (by rw [jk];omega)) hX)
 have hsl:=qo1 (es:=es) (m:=fun i=>matT (gt es i) (at0 tag i) p) (j:=es.length)
 unfold qck
 refine Ev.bind hL ?_
 generalize selE es (fun i=>matT (gt es i) (at0 tag i) p) es.length=ms at hsl ⊢
 have hms:ms.length≤1048576:=by omega
 have hc:Ev (fun n=>qap n ms) (ms.any fun e=>e.Ar==1):=by
  unfold qap
  refine Ev.bind (b:=ixL (fun e:qa=>e.Ar==1) ms) (qdA (fin:=(ms.length:Int)) (Lf:=qL ms) (pf:=fun n x=>qh5 n x) (fun x hx=>.done)
   (fun n=>by simp only [qL,qj (jf _),cond_false])
   (fun n j x hx=>by
    have hj:=(List.getElem?_eq_some_iff.1 hx).1
    simp only [qL,qi hj,cond_true,qfY hx,je,wS j])
   (fun n=>by unfold qaW;congr 1;funext o;cases o<;>rfl)) (Ev.now ?_)
  rw [qh4]
 refine Ev.bind (qjI hms) (Ev.bind (qjI hms) (Ev.bind hc (Ev.bind (qjI hms) ?_)))
 unfold effE
 cases decide ((chooseL 2 false ms).2 > 0)<;>cases (chooseL 3 false ms).2==-1<;>exact .done
def fitsB (es:List qa) (tag:List Int):Bool:=decide (tag.length=es.length)&&allN (fun i=>inI (at0 tag i) (-1) ((gt es i).Am.length:Int)) es.length
theorem lenNe {α β:Type} {xs:List α} {ys:List β}:((xs.length:Int) != (ys.length:Int)) = !decide (xs.length=ys.length):=by rw [jm];simp;omega
theorem qsf {es:List qa} {tag:List Int} (hl:es.length≤1048576):Ev (fun n=>qkS n es tag) (fitsB es tag):=by
 unfold qkS fitsB
 rw [lenNe]
 simp only [qaQ]
 refine Ev.andP fun h=>?_
 have h:=of_decide_eq_true h
 have hL:Ev (fun n=>qgo es tag n 0) (bif allN (fun i=>inI (at0 tag i) (-1) ((gt es i).Am.length:Int)) es.length then .nxt (es.length:Int) else .ret false):=by
  refine qee (Ev.succ ?_) (fun j hj X hX=>Ev.succ ?_)
  ·simp only [qgo,qj (jf _),cond_false];exact .done
  ·simp only [qgo,qi hj,cond_true,qaa hj,qaN (show j<tag.length by omega),je,qV,qcN,wS j,qaQ]
   exact Ev.okP1 fun _=>hX
 refine Ev.bind hL ?_
 cases allN (fun i=>inI (at0 tag i) (-1) ((gt es i).Am.length:Int)) es.length<;>exact .done
end Go.Fw


namespace Go.Fw
open Go Go.Proofs
open Go.RowKit (Below)
set_option maxRecDepth 100000
set_option maxHeartbeats 6400000
variable {n:Nat} {w:World} {cs1 cs2 cs3 cs4 cs5 cs6 cs7 cs8 cs9:List Value}
def qgD (_:Nat) (x:Int):Option Bool :=
 some (x != x)
theorem qiB {x:Int}  {r:Bool} (hF:qgD n x=some r):RetV Tryz.prog 222 [.int .i64 x] w r:=by
 exact zV 6 Tryz.func222 rfl fun h=>X0 11 rfl (rb h hF rfl)
def qfI (n:Nat) (x:Int) (y:Int):Option Int :=
 (qgD n x).bind fun r1 =>
 (qgD n y).bind fun r2 =>
 bif r1 then
  bif r2 then some 0 else
  some (-1)
 else
  bif r2 then some 1 else
  bif decide (x<y) then some (-1) else
  bif decide (x > y) then some 1 else
  some 0
theorem qj9 {x:Int} {y:Int}  {r:Int} (hF:qfI n x y=some r):RetV Tryz.prog 198 [.int .i64 x,.int .i64 y] w r:=by
 refine zV 20 Tryz.func198 rfl fun h=>X0 7 rfl (zcB h hF qiB rfl fun r1 w1 h hF=>X0 5 rfl (zcB h hF qiB rfl fun r2 w2 h hF=>X0 7 rfl (qk rfl hF ?_ ?_)))<;>intro hF
 ·refine X0 5 rfl (qk rfl hF ?_ ?_)<;>intro hF
  ·exact X0 4 rfl (ri h hF rfl)
  exact X0 5 rfl (ri h hF rfl)
 refine X0 6 rfl (qk rfl hF ?_ ?_)<;>intro hF
 ·exact X0 4 rfl (ri h hF rfl)
 refine X0 8 rfl (qk rfl hF ?_ ?_)<;>intro hF
 ·exact X0 4 rfl (ri h hF rfl)
 refine X0 8 rfl (qk rfl hF ?_ ?_)<;>intro hF
 ·exact X0 4 rfl (ri h hF rfl)
 exact X0 5 rfl (ri h hF rfl)
def qaO (a_s1:(List Int)) (a_s2:(List Int)):Nat→Int→Option (Flow Int Int)
 | 0,_=>none
 | n+1,i1 =>
  bif decide (i1<(a_s1.length:Int)) then
   (idx a_s1 i1).bind fun y1 =>
   bif decide (i1 ≥ (a_s2.length:Int)) then some (.ret 1) else
   (idx a_s2 i1).bind fun y2 =>
   (qfI n y1 y2).bind fun r1 =>
   bif (r1 != 0) then some (.ret r1) else
   qaO a_s1 a_s2 n (W64 (i1+1))
  else
   some (.nxt i1)
def qc8 (n:Nat) (a_s1:(List Int)) (a_s2:(List Int)):Option Int :=
 (qaO a_s1 a_s2 n 0).bind fun o=>match o with
 | .ret r=>some r
 | .nxt _ =>
  bif decide ((a_s1.length:Int)<(a_s2.length:Int)) then some (-1) else
  some 0
theorem qgU {a_s1:(List Int)} {a_s2:(List Int)} (ha1:GoT.R w (old w) a_s1 cs1) (ha2:GoT.R w (old w) a_s2 cs2) {r:Int} (hF:qc8 n a_s1 a_s2=some r):RetV Tryz.prog 161 [GoT.v (List Int) cs1,GoT.v (List Int) cs2] w r:=by
 obtain ⟨p1,k1,rfl,s1⟩:=ha1
 obtain ⟨p2,k2,rfl,s2⟩:=ha2
 refine zV 36 Tryz.func161 rfl fun h=>X0 11 rfl ?_
 obtain ⟨o1,hF,hK1⟩:=qe hF
 refine ql (rL (fun m e w'=>∃ (i1:Int),qaO a_s1 a_s2 m i1=some o1∧e=[(0,.slice p1 a_s1.length k1),(1,.slice p2 a_s2.length k2),(9,.slice p1 a_s1.length k1),(10,.int .i64 (a_s1.length:Int)),(11,.int .i64 i1)]∧SH w w' []) n ⟨_,hF,rfl,h⟩ rfl ?_)
 rintro m1 e1 w1 ⟨i1,hF,rfl,h⟩
 rcases m1 with _|m1
 ·cases hF
 refine X0 5 rfl (qk rfl hF ?_ ?_)<;>intro hF
 ·refine X0 6 rfl ?_
  obtain ⟨y1,hy1,hF,he1,b1,_,q1,cs3,hp1,hq1,rfl,hc2⟩:=s1.ix hF
  refine zxe hp1 hq1 he1 rfl (zc 0 (hc2.below h.below) rfl (X0 11 rfl (qk rfl hF ?_ ?_)))<;>intro hF
  ·refine X0 4 rfl ?_
   obtain rfl:=qc hF;replace hF:=hK1
   exact ri h hF rfl
  refine X0 5 rfl ?_
  obtain ⟨y2,hy2,hF,he2,b2,_,q2,cs4,hp2,hq2,rfl,hc4⟩:=s2.ix hF
  refine zxe hp2 hq2 he2 rfl (zc 0 (hc4.below h.below) rfl (X0 6 rfl (zcI h hF qj9 rfl fun r1 w2 h hF=>X0 7 rfl (qk rfl hF ?_ ?_))))<;>intro hF
  ·refine X0 5 rfl ?_
   obtain rfl:=qc hF;replace hF:=hK1
   exact ri h hF rfl
  exact X0 6 rfl (rK ⟨_,hF,rfl,h⟩ rfl)
 refine qp rfl ?_
 obtain rfl:=qc hF;replace hF:=hK1
 refine X0 9 rfl (qk rfl hF ?_ ?_)<;>intro hF
 ·exact X0 4 rfl (ri h hF rfl)
 exact X0 5 rfl (ri h hF rfl)
def qbG (a:(List Int)) (b:(List Int)):Nat→Int→Option (Flow Int Int)
 | 0,_=>none
 | n+1,i1 =>
  bif decide (i1<(a.length:Int)) then
   (idx a i1).bind fun y1 =>
   (idx b i1).bind fun y2 =>
   bif decide (y1<y2) then some (.ret (-1)) else
   (idx a i1).bind fun y3 =>
   (idx b i1).bind fun y4 =>
   bif decide (y3 > y4) then some (.ret 1) else
   qbG a b n (W64 (i1+1))
  else
   some (.nxt i1)
def qfA (n:Nat) (a:(List Int)) (b:(List Int)):Option Int :=
 (qbG a b n 0).bind fun o=>match o with
 | .ret r=>some r
 | .nxt _ =>
  some 0
theorem qiF {a:(List Int)} {b:(List Int)} (ha1:GoT.R w (old w) a cs1) (ha2:GoT.R w (old w) b cs2) {r:Int} (hF:qfA n a b=some r):RetV Tryz.prog 164 [GoT.v (List Int) cs1,GoT.v (List Int) cs2] w r:=by
 obtain ⟨p1,k1,rfl,s1⟩:=ha1
 obtain ⟨p2,k2,rfl,s2⟩:=ha2
 refine zV 30 Tryz.func164 rfl fun h=>X0 9 rfl ?_
 obtain ⟨o1,hF,hK1⟩:=qe hF
 refine ql (rL (fun m e w'=>∃ (i1:Int),qbG a b m i1=some o1∧e=[(0,.slice p1 a.length k1),(1,.slice p2 b.length k2),(5,.int .i64 i1)]∧SH w w' []) n ⟨_,hF,rfl,h⟩ rfl ?_)
 rintro m1 e1 w1 ⟨i1,hF,rfl,h⟩
 rcases m1 with _|m1
 ·cases hF
 refine X0 8 rfl (qk rfl hF ?_ ?_)<;>intro hF
 ·refine X0 5 rfl (rD (zd2 rfl ?_))
  obtain ⟨y1,hy1,hF,he1,b1,_,q1,cs3,hp1,hq1,rfl,hc2⟩:=s1.ix hF
  refine zdxe hp1 hq1 he1 rfl (zdc 0 (hc2.below h.below) rfl (zd2 rfl ?_))
  obtain ⟨y2,hy2,hF,he2,b2,_,q2,cs4,hp2,hq2,rfl,hc3⟩:=s2.ix hF
  refine zdxe hp2 hq2 he2 rfl (zdc 0 (hc3.below h.below) rfl (zd1 rfl (dN h fun w2 h=>qk rfl hF ?_ ?_)))<;>intro hF
  ·refine X0 4 rfl ?_
   obtain rfl:=qc hF;replace hF:=hK1
   exact ri h hF rfl
  refine zKS (rD (zd2 rfl ?_))
  obtain ⟨y3,hy3,hF,he3,b3,_,q3,cs5,hp3,hq3,rfl,hc5⟩:=s1.ix hF
  refine zdxe hp3 hq3 he3 rfl (zdc 0 (hc5.below h.below) rfl (zd2 rfl ?_))
  obtain ⟨y4,hy4,hF,he4,b4,_,q4,cs6,hp4,hq4,rfl,hc6⟩:=s2.ix hF
  refine zdxe hp4 hq4 he4 rfl (zdc 0 (hc6.below h.below) rfl (zd1 rfl (dN h fun w3 h=>qk rfl hF ?_ ?_)))<;>intro hF
  ·refine X0 4 rfl ?_
   obtain rfl:=qc hF;replace hF:=hK1
   exact ri h hF rfl
  exact X0 7 rfl (rK ⟨_,hF,rfl,h⟩ rfl)
 refine qp rfl ?_
 obtain rfl:=qc hF;replace hF:=hK1
 exact X0 4 rfl (ri h hF rfl)
def qx (x:(List (List Int))) (target:(List Int)):Nat→Int→Int→Option (Int × Int)
 | 0,_,_=>none
 | n+1,i1,i2 =>
  bif decide (i1<i2) then
   (shrS .u64 (IntKind.wrap .u64 (W64 (i1+i2))) 1).bind fun y1 =>
   (idx x (W64 y1)).bind fun y2 =>
   (qc8 n y2 target).bind fun r1 =>
   bif decide (r1<0) then qx x target n (W64 ((W64 y1)+1)) i2 else
   qx x target n i1 (W64 y1)
  else
   some (i1,i2)
def qaj (n:Nat) (x:(List (List Int))) (target:(List Int)):Option (Int × Bool) :=
 (qx x target n 0 (x.length:Int)).bind fun o=>match o with
 | (i1,_) =>
  bif decide (i1<(x.length:Int)) then
   (idx x i1).bind fun y3 =>
   (qc8 n y3 target).bind fun r2 =>
   some (i1,(r2==0))
  else
   some (i1,false)
theorem qds {x:(List (List Int))} {target:(List Int)} (ha1:GoT.R w (old w) x cs1) (ha2:GoT.R w (old w) target cs2) {r:(Int × Bool)} (hF:qaj n x target=some r):RetV Tryz.prog 160 [GoT.v (List (List Int)) cs1,GoT.v (List Int) cs2,.func (.func 161) #[] #[]] w r:=by
 obtain ⟨p1,k1,rfl,s1⟩:=ha1
 obtain ⟨p2,k2,rfl,s2⟩:=ha2
 refine zV 49 Tryz.func160 rfl fun h=>X0 18 rfl ?_
 obtain ⟨o1,hF,hK1⟩:=qe hF
 refine ql (rL (fun m e w'=>∃ (i1:Int) (i2:Int),qx x target m i1 i2=some o1∧e=[(0,.slice p1 x.length k1),(1,.slice p2 target.length k2),(2,.func (.func 161) #[] #[]),(8,.int .i64 (x.length:Int)),(9,.int .i64 i1),(10,.int .i64 i2)]∧SH w w' []) n ⟨_,_,hF,rfl,h⟩ rfl ?_)
 rintro m1 e1 w1 ⟨i1,i2,hF,rfl,h⟩
 rcases m1 with _|m1
 ·cases hF
 refine X0 7 rfl (qk rfl hF ?_ ?_)<;>intro hF
 ·refine X0 8 rfl ?_
  obtain ⟨y1,hx1,hF⟩:=qe hF
  obtain ⟨g1,hx1⟩:=qq7 hx1
  refine r_v (qt2 g1 rfl rfl) rfl ?_
  rw [hx1]
  refine X0 8 rfl ?_
  obtain ⟨y2,hy1,hF,he1,b1,_,q1,cs3,hp1,hq1,hr1,hc2⟩:=s1.ix hF
  obtain ⟨p3,k3,rfl,s3⟩:=hr1
  refine zxe hp1 hq1 he1 rfl (zc 0 (hc2.below h.below) rfl (zp1 rfl (zcI h hF (qgU ⟨_,_,rfl,(h.oldS s3)⟩ ⟨_,_,rfl,(h.oldS s2)⟩) rfl fun r1 w2 h hF=>X0 2 rfl (qk rfl hF ?_ ?_))))<;>intro hF
  ·exact X0 6 rfl (rK ⟨_,_,hF,rfl,h⟩ rfl)
  exact X0 5 rfl (rK ⟨_,_,hF,rfl,h⟩ rfl)
 refine qp rfl ?_
 obtain rfl:=qc hF;replace hF:=hK1
 refine X0 7 rfl (qh (t:=39) hF rfl ?_ ?_)<;>intro hF
 ·refine X0 7 rfl ?_
  obtain ⟨y3,hy2,hF,he2,b2,_,q2,cs4,hp2,hq2,hr3,hc4⟩:=s1.ix hF
  obtain ⟨p4,k4,rfl,s4⟩:=hr3
  refine zxe hp2 hq2 he2 rfl (X0 1 rfl (zc 0 (hc4.below h.below) rfl (X0 3 rfl (zcI h hF (qgU ⟨_,_,rfl,(h.oldS s4)⟩ ⟨_,_,rfl,(h.oldS s2)⟩) rfl fun r2 w3 h hF=>X0 6 rfl ?_))))
  obtain rfl:=qc hF
  exact qar qb (ρ:=(Int × Bool)) [GoT.v Int [.int .i64 i1],GoT.v Bool [.bool (r2==0)]] h ⟨rfl,rfl,trivial⟩ (PV.done h (qaC h (qu (S:=fun _=>False) rfl) (qaD (qu (S:=fun _=>False) rfl)) (by rfl)))
 refine X0 12 rfl ?_
 obtain rfl:=qc hF
 exact qar qb (ρ:=(Int × Bool)) [GoT.v Int [.int .i64 i1],GoT.v Bool [.bool false]] h ⟨rfl,rfl,trivial⟩ (PV.done h (qaC h (qu (S:=fun _=>False) rfl) (qaD (qu (S:=fun _=>False) rfl)) (by rfl)))
end Go.Fw


namespace Go.Fw
open Go
open Go.RowKit (Below)
section
variable {P:Program} {T:Tab} {n:Nat} {Q:Exit→Act→World→Prop} {k:List It} {e:Env} {w0 w w':World} {L:List Ch}
theorem qsg (hT:TabOk P T) {x hi:Operand} {lo:Option Operand} {t ty d el c k1 rl:Nat} {p p1:Option Addr} {ps:String} {af:Array Edge} {g:Option (Nat × Bool)} {te te':TE} {ln m:Nat} {l h:Int}
  (hx:opv e x=some (.slice p ln c)) (hlo:optI e lo 0=some l) (hhi:optI e (some hi) 0=some h) (hb:0≤l∧l≤h∧h≤c) (hp:subP m p c l.toNat=p1) (hk1:c-l.toNat=k1) (hl:h.toNat-l.toNat=rl)
  (hte:T.get t=some te) (hk:te.kind=.slice el) (hel:T.get el=some te') (hm:te'.size=m):Val P n e ⟨some d,.slice t x lo (some hi) none,ty,ps,af,g⟩ w (.slice p1 rl k1):=by
 subst hp hk1 hl
 obtain ⟨h0,h1,h2⟩:=hb
 intro a ha
 have hu:=qbR (hT _ _ hte) hk
 have hs:=qfZ (hT _ _ hel) w
 subst hm
 have hb1:∀ (code:BoundsCode),(Instr.sliceBound (a.eval hi) c code).run P w=.ok h.toNat w:=by
  intro code
  simp only [optI] at hhi
  split at hhi
  ·rename_i kd i hy
   simp only [Option.some.injEq] at hhi
   subst hhi
   exact qkH (ha.eval hy) (by omega) (by omega) w
  ·cases hhi
 have hb2:∀ (code:BoundsCode),(match lo.map a.eval with|some v=>Instr.sliceBound v h.toNat code|none=>pure 0:Sem Nat).run P w=.ok l.toNat w:=by
  intro code
  cases lo with
  | none=>simp only [optI,Option.some.injEq] at hlo;subst hlo;simp
  | some y =>
   simp only [optI] at hlo
   split at hlo
   ·rename_i kd i hy
    simp only [Option.some.injEq] at hlo
    subst hlo
    simp only [jW]
    exact qkH (ha.eval hy) h0 (by omega) w
   ·cases hlo
 have hbs:(Instr.sliceBounds true ln c (lo.map a.eval) (some (a.eval hi)) none).run P w=.ok (l.toNat,h.toNat,c) w:=by
  have e1:=hb1 .sliceAcap
  have e2:=hb2 .sliceB
  unfold Instr.sliceBounds
  cases lo<;>simp only [Option.map_none,jW,jl,jn,jh,if_true,Option.isSome_none,Bool.false_eq_true,if_false] at e1 e2 ⊢<;>simp_all
 simp only [execOp,ha.eval hx,Option.map_none,jW,Instr.sliceAt,Instr.sureAddr,Instr.slice,jl,jn,run_underlying hu,jh,hbs,hs,subP]
theorem qi5 {b a:Nat} (hne:a ≠ b):∀ (vs:List Value) (o:Nat) (w:World),(w.setCells b o vs).heap[a]?=w.heap[a]?
 | [],_,_=>rfl
 | v::r,o,w=>by
  rw [World.setCells,qi5 hne r]
  show (w.heap.modify b _)[a]?=_
  rw [Array.getElem?_modify,if_neg (fun h=>hne h.symm)]
theorem qi7 (b:Nat):∀ (vs:List Value) (o:Nat) (w:World),(w.setCells b o vs).os=w.os∧(w.setCells b o vs).tape=w.tape∧(w.setCells b o vs).output=w.output∧(w.setCells b o vs).heap.size=w.heap.size
 | [],_,_=>⟨rfl,rfl,rfl,rfl⟩
 | v::r,o,w=>by
  obtain ⟨h1,h2,h3,h4⟩:=qi7 b r (o+1) (w.setCell ⟨b,o,none⟩ v)
  exact ⟨h1,h2,h3,h4.trans (by show (w.heap.modify b _).size=_;rw [Array.size_modify])⟩
theorem qpb {cs r:List Value} {o:Nat} {v:Value} (h:o+(v::r).length≤cs.length):splice (cs.set o v) (o+1) r=splice cs o (v::r):=by
 have h1:o+1+r.length≤(cs.set o v).length:=by simp at h ⊢;omega
 refine List.ext_getElem? fun i=>?_
 rw [getElem?_splice h1,getElem?_splice h,List.getElem?_set,Jf]
 by_cases c1:i<o
 ·rw [if_pos (by omega),if_neg (by omega),if_pos c1]
 ·by_cases c2:i=o
  ·subst c2
   rw [if_pos (by omega),if_pos rfl,if_pos (by simp at h;omega),if_neg (by omega),if_pos (by omega)]
   simp
  ·by_cases c3:i<o+(r.length+1)
   ·rw [if_neg (by omega),if_pos (by omega),if_neg c1,if_pos c3]
    rw [show i-o=(i-(o+1))+1 by omega,jP]
   ·rw [if_neg (by omega),if_neg (by omega),if_neg (by omega),if_neg c1,if_neg c3]
theorem qjS (b:Nat) (t:TypeId) (fr:Nat × Nat):∀ (vs:List Value) (o:Nat) (w:World) (cs:List Value),w.heap[b]?=some (.cells cs.toArray t fr)→o+vs.length≤cs.length→(w.setCells b o vs).heap[b]?=some (.cells (splice cs o vs).toArray t fr)
 | [],o,w,cs,hg,_=>by
  rw [World.setCells,hg]
  simp [splice]
 | v::r,o,w,cs,hg,hle=>by
  rw [World.setCells,←qpb hle]
  refine qjS b t fr r (o+1) _ (cs.set o v) ?_ (by simp at hle ⊢;omega)
  show (w.heap.modify b _)[b]?=_
  rw [Array.getElem?_modify,if_pos rfl,hg]
  simp
theorem qmU (hT:TabOk P T) {all:Array Oper} {l:List Oper} {d tt ty el b o ld cd ls lc b' o' tb:Nat} {ps:String} {af:Array Edge} {x y:Operand} {te te':TE} {cs vs:List Value} (m:Nat)
  (h:SH w0 w L) (hi:L[m]?=some (Ch.box b cs tb)) (hs:CellsAt w b' o' vs) (hx:opv e x=some (.slice (some ⟨b,o,none⟩) ld cd)) (hy:opv e y=some (.slice (some ⟨b',o',none⟩) ls lc))
  (hte:T.get tt=some te) (hk:te.kind=.slice el) (hel:T.get el=some te') (hsz:te'.size=1) (hlen:vs.length=min ls ld) (hfit:o+vs.length≤cs.length) (h1:∀ v ∈ vs,v.oneCell'=true) (hn:Nat.blt d n=true)
  (hkk:∀ w',SH w0 w' (L.set m (Ch.box b (splice cs o vs) tb))→Run P n Q (.ops all l::k) ((d,.int .i64 vs.length)::e) w') :
  Run P n Q (.ops all (⟨some d,.call ⟨.builtin .copy,#[x,y],#[tt,tt]⟩,ty,ps,af,none⟩::l)::k) e w:=by
 obtain ⟨inf,hinf,hs1,_,_⟩:=qd7 (hT _ _ hel)
 have hu:=qbR (hT _ _ hte) hk
 have hg:w.heap[b]?=some (.cells cs.toArray tb (0,0)):=(h.mem hi).1
 have hcell:∀ j,j<vs.length→(w.cell? ⟨b,o+j,none⟩).isSome=true:=fun j hj=>by
  simp only [World.cell?,hg,Option.isSome_none,Bool.false_eq_true,if_false]
  rw [jI,ji (by omega)]
  rfl
 have hfz:∀ j,j<vs.length→w.frozen? ⟨b,o+j,none⟩=false:=fun j _=>by
  simp only [World.frozen?,hg]
  simp
 have hr:=run_copy_cells (P:=P) w tt tt ty el b o ld cd ⟨b',o',none⟩ ls lc vs hu (by rw [hinf,jW,hs1,hsz]) hlen
  (fun j v hj=>by rw [qfQ];exact hs j v hj) hcell hfz h1
 obtain ⟨r1,r2,r3,r4⟩:=qi7 b vs o w
 refine qiQ (v:=.int .i64 vs.length) (w':=w.setCells b o vs) rfl rfl hn (fun a ha=>?_) (hkk _ (h.upd hi r1 r2 r3 (by rw [r4];exact jf _) (fun a _ ha=>qi5 (fun hab=>ha hab) vs o w) (qjS b tb (0,0) vs o w cs hg hfit) (fun a ha=>.inl ha) (fun _ hd=>hd.elim)))
 simp only [execOp,resolve,invoke,builtin,jl,jn,jh,List.map_toArray,Jb,List.map_nil,ha.eval hx,ha.eval hy,hr]
 rfl
theorem qt6 {v:Value} {all:Array Oper} {l:List Oper} {d ty:Nat} {ps:String} {af:Array Edge} {x:Operand} {args:Array Operand} {ats:Array TypeId} {f:FuncId} {az:List Value}
  (hx:opv e x=some (.func (.func f) #[] #[])) (hargs:opvs e args.toList=some az) (hr:(callFunc f az.toArray).run P w=.ok (.value v) w) (hn:Nat.blt d n=true)
  (hk:Run P n Q (.ops all l::k) ((d,v)::e) w):Run P n Q (.ops all (⟨some d,.call ⟨.value x,args,ats⟩,ty,ps,af,none⟩::l)::k) e w:=by
 refine qiQ rfl rfl hn (fun a ha=>?_) hk
 have harg:=qfe ha hargs
 have e1:(#[]++az.toArray++#[]:Array Value)=az.toArray:=by simp
 simp only [execOp,resolve,Deferred.ofValue,jl,jn,jh,ha.eval hx,invoke,harg,e1,hr]
theorem SH.boxAt {b t i:Nat} {cs:List Value} (h:SH w0 w L) (hi:L[i]?=some (Ch.box b cs t)):w.heap[b]?=some (.cells cs.toArray t (0,0)):=(h.mem hi).1
theorem qn9 {b t:Nat} {cs:List Value} (hg:w.heap[b]?=some (.cells cs.toArray t (0,0))):w.shape? b=some (t,cs.length):=by unfold World.shape?;rw [hg];simp
theorem qnh {b t:Nat} {cs:List Value} (hg:w.heap[b]?=some (.cells cs.toArray t (0,0))) (o:Nat):w.frozen? ⟨b,o,none⟩=false:=by unfold World.frozen?;rw [hg];simp
section
variable {α:Type} [GoT α]
theorem SH.toBox (hk1:GoT.k α=1) {S:Nat→Prop} {rs:List (Raw α)} {b o ln c:Nat} {sp:Option Nat} (h:SH w0 w (Ch.own S rs [.slice (some ⟨b,o,sp⟩) ln c]::L)) :
  o=0∧sp=none∧ln=rs.length∧rs.length≤c∧c≤maxLen∧∃ (cs:List Value) (t:Nat),cs.length=c∧(∀ (j:Nat) (r:Raw α),rs[j]?=some r→∃ v:Value,r.cs=[v]∧v.oneCell'=true∧cs[j]?=some v)∧SH w0 w (Ch.box b cs t::L):=by
 obtain ⟨hP,_⟩:=h.holds _ (jq ..)
 obtain ⟨p',c',he,h1,h2,h3⟩:=hP
 simp only [List.cons.injEq,Value.slice.injEq,and_true] at he
 obtain ⟨rfl,rfl,rfl⟩:=he
 rcases h3 with ⟨hn,_⟩|⟨b',cur,t,F,hb,hSb,hg,hc,hF,hd,hx⟩
 ·cases hn
 ·simp only [Option.some.injEq,Addr.mk.injEq] at hb
  obtain ⟨rfl,rfl,rfl⟩:=hb
  have hkr:GoT.k (Raw α)=1:=hk1
  refine ⟨rfl,rfl,rfl,h1,h2,cur.toList,t,by rw [Array.length_toList,hc,hkr,Nat.mul_one],fun j r hj=>?_,?_⟩
  ·obtain ⟨cs,⟨e1,e2,e3⟩,hv⟩:=hx j r hj
   rw [hk1] at e2
   match cs,e2 with
   | [v],_ =>
    refine ⟨v,e1.symm,e3 v (List.mem_singleton.2 rfl),?_⟩
    have:=hv 0 v rfl
    rw [hkr,Nat.mul_one,Jc] at this
    simpa using this
  ·exact h.say (i:=0) (c':=Ch.box b cur.toList t) rfl (fun _=>by show w.heap[b]?=_;rw [hg]) (fun a ha=>by have ha:a=b:=ha;exact ha ▸ hSb) (fun _ hd=>hd.elim)
theorem SH.ofBox (hk1:GoT.k α=1) {rs:List (Raw α)} {b c t:Nat} {cs:List Value} (h:SH w0 w (Ch.box b cs t::L)) (hc:cs.length=c) (hl:rs.length≤c) (hm:c≤maxLen)
  (hr:∀ (j:Nat) (r:Raw α),rs[j]?=some r→∃ v:Value,r.cs=[v]∧v.oneCell'=true∧cs[j]?=some v):SH w0 w (Ch.own (fun a=>a=b) rs [.slice (some ⟨b,0,none⟩) rs.length c]::L):=by
 have hkr:GoT.k (Raw α)=1:=hk1
 refine h.say (i:=0) (c':=Ch.own (fun a=>a=b) rs [.slice (some ⟨b,0,none⟩) rs.length c]) rfl (fun hp=>?_) (fun a ha=>ha) (fun _ hd=>hd.elim)
 have hp:w.heap[b]?=some (.cells cs.toArray t (0,0)):=hp
 refine ⟨some ⟨b,0,none⟩,c,rfl,hl,hm,.inr ⟨b,cs.toArray,t,fun _ _=>False,rfl,rfl,hp,by rw [hkr,Nat.mul_one,jV,hc],fun _ _ hf=>hf.elim,fun _ _ _ _ hf=>hf.elim,fun j r hj=>?_⟩⟩
 obtain ⟨v,e1,e2,e3⟩:=hr j r hj
 refine ⟨[v],⟨e1.symm,by rw [hk1];rfl,fun u hu=>by rw [List.mem_singleton.1 hu];exact e2⟩,fun q u hq=>?_⟩
 have hq0:q=0:=by have:=(List.getElem?_eq_some_iff.1 hq).1;simpa using this
 subst hq0
 obtain rfl:v=u:=by simpa using hq
 rw [hkr,Nat.mul_one,Jc,jI]
 exact e3
end
theorem qtc (hT:TabOk P T) {all:Array Oper} {l:List Oper} {d t t2 ty el b m c:Nat} {ps:String} {af:Array Edge} {te te' te2:TE} {x y:Operand} {kd k2:IntKind} {zv:Value} {vs:List Value} (kn:Nat)
  (h:SH w0 w L) (hs:CellsAt w b 0 vs) (hvl:vs.length=m) (hx:opv e x=some (.slice (some ⟨b,0,none⟩) m c)) (hy:opv e y=some (.int kd (kn:Int))) (hte:T.get t=some te) (hk:te.kind=.slice el) (ht2:T.get t2=some te2) (hk2:te2.kind=.int k2)
  (hel:T.get el=some te') (hz:te'.zero=some zv) (hzc:(cellsL zv).length=1) (hsz:te'.size=1) (hb:Nat.ble te'.bytes 65536=true) (h0:0<kn) (hg:c<m+kn) (hbig:m+kn≤2147483648) (hn:Nat.blt d n=true)
  (hkk:∀ w' b2 cap Z,SH w0 w' (Ch.box b2 (vs++Z) el::L)→m+kn≤cap→cap≤maxLen→(vs++Z).length=cap→w.heap[b2]?=none→(∀ a,a<w.heap.size→w'.heap[a]?=w.heap[a]?)→Run P n Q (.ops all l::k) ((d,.slice (some ⟨b2,0,none⟩) (m+kn) cap)::e) w') :
  Run P n Q (.ops all (⟨some d,.call ⟨.builtin .append,#[x,y],#[t,t2]⟩,ty,ps,af,none⟩::l)::k) e w:=by
 obtain ⟨i,hi,hs1,hby,hzi⟩:=qd7 (hT _ _ hel)
 have hb':=js hb
 have hsl:=qbR (hT _ _ hte) hk
 have hin:=qlZ (hT _ _ ht2) hk2
 have hi1:i.size=1:=hs1.trans hsz
 have hold:(Builtin.firstCells i.size m (.slice (some ⟨b,0,none⟩) m c)).run P w.drew=.ok vs.toArray w.drew:=by
  rw [hi1]
  exact run_firstCells_some w.drew 1 m ⟨b,0,none⟩ m c vs (by omega) (fun j v hj=>by rw [qfQ];exact hs j v hj)
 have hmul:∀ q,q≤2147483648→q*i.bytes≤140737488355328:=fun q hq=>by
  have:q*i.bytes≤2147483648*65536:=Nat.mul_le_mul hq (by omega)
  omega
 have hr:=Lib.run_append_grow_zeros (P:=P) w t t2 ty el i zv kd k2 hsl hin hi (hzi.trans hz) (some ⟨b,0,none⟩) m c vs hold kn h0 (by omega) hg (by omega)
  (by have:=hmul kn (by omega);omega) (growslice_fits hg (hmul _ hbig))
 have hge:=grownCap_ge w (m+kn) c el
 have hcm:=grownCap_le_maxLen w (m+kn) c el (by simp [maxLen];omega)
 have hzs:zv.cells.size=1:=by rw [←hzc,←qc1];simp
 refine qiQ (v:=.slice (some ⟨w.heap.size,0,none⟩) (m+kn) (grownCap w (m+kn) c el)) rfl rfl hn (fun a ha=>?_)
  (hkk _ w.heap.size _ ((Builtin.zeroCells zv.cells kn).toList++(Builtin.zeroCells zv.cells (grownCap w (m+kn) c el-(m+kn))).toList)
   (h.add (w':=w.drew.alloc (.cells (vs.toArray++Builtin.zeroCells zv.cells kn++Builtin.zeroCells zv.cells (grownCap w (m+kn) c el-(m+kn))) el)) ((Below.refl _ w).drew.alloc (jf _) _) ?_ ?_ (fun _ hd=>hd.elim)) hge hcm ?_ (Array.getElem?_eq_none (jf _)) (fun a ha=>heap_alloc_old w.drew _ ha))
 ·simp only [execOp,resolve,invoke,builtin,jl,jn,jh,List.map_toArray,Jb,List.map_nil,ha.eval hx,ha.eval hy,hr]
 ·show (w.drew.alloc _).heap[w.heap.size]?=_
  rw [show w.heap.size=w.drew.heap.size from rfl,heap_alloc_new w.drew]
  congr 2
  apply Array.ext'
  simp
 ·intro a ha
  have ha:a=w.heap.size:=ha
  subst ha
  exact ⟨jf _,by simp⟩
 ·simp only [jj,Array.length_toList,size_zeroCells,hzs,Nat.mul_one,hvl]
  omega
section
variable {α:Type} [GoT α] {S S2 Se:Nat→Prop}
theorem SH.elsIns {x:α} {cs:List Value} {xs:List α} {rs:List (Raw α)} (k:Nat) (hk:k≤xs.length) (h:SH w0 w (Ch.own Se x cs::Ch.els S xs rs::L)) :
  SH w0 w (Ch.els (fun b=>Se b∨S b) (xs.take k++x::xs.drop k) (rs.take k++⟨cs⟩::rs.drop k)::L):=by
 have hap:=(List.pairwise_cons.1 h.apart).1 (Ch.els S xs rs) (jq ..)
 refine h.join (e:=Ch.els (fun b=>Se b∨S b) (xs.take k++x::xs.drop k) (rs.take k++⟨cs⟩::rs.drop k)) (fun h1 h2=>?_) (fun _ hb=>hb) (fun _ h=>h.elim)
 obtain ⟨hl,F,f1,f2,f3⟩:=h2
 have hat:∀ {β:Type} (ys:List β) (z y:β) (i:Nat),k≤ys.length→(ys.take k++z::ys.drop k)[i]?=some y→(i<k∧ys[i]?=some y)∨(i=k∧z=y)∨(k<i∧ys[i-1]?=some y):=by
  intro β ys z y i hky hi
  have htl:(ys.take k).length=k:=by simp;omega
  rcases Nat.lt_or_ge i k with hik|hik
  ·rw [ju (by omega),jt,if_pos hik] at hi
   exact .inl ⟨hik,hi⟩
  ·rw [jD (by omega),htl] at hi
   rcases Nat.eq_or_lt_of_le hik with e|hlt
   ·subst e
    rw [Nat.sub_self] at hi
    exact .inr (.inl ⟨rfl,by simpa using hi⟩)
   ·rw [show i-k=(i-1-k)+1 by omega,jP,jA,show k+(i-1-k)=i-1 by omega] at hi
    exact .inr (.inr ⟨hlt,hi⟩)
 refine ⟨by simp [hl],fun i a=>(i<k∧F i a)∨(i=k∧Se a)∨(k<i∧F (i-1) a),fun i a ha=>?_,fun i j a hne ha hb=>?_,fun i y r hy hr=>?_⟩
 ·rcases ha with ⟨_,ha⟩|⟨_,ha⟩|⟨_,ha⟩
  ·exact .inr (f1 _ a ha)
  ·exact .inl ha
  ·exact .inr (f1 _ a ha)
 ·rcases ha with ⟨q1,ha⟩|⟨q1,ha⟩|⟨q1,ha⟩<;>rcases hb with ⟨q2,hb⟩|⟨q2,hb⟩|⟨q2,hb⟩
  ·exact f2 _ _ a hne ha hb
  ·exact hap a hb (f1 _ a ha)
  ·exact f2 _ _ a (by omega) ha hb
  ·exact hap a ha (f1 _ a hb)
  ·omega
  ·exact hap a ha (f1 _ a hb)
  ·exact f2 _ _ a (by omega) ha hb
  ·exact hap a hb (f1 _ a ha)
  ·exact f2 _ _ a (by omega) ha hb
 ·have hkr:k≤rs.length:=by omega
  rcases hat xs x y i hk hy with ⟨q1,e1⟩|⟨q1,e1⟩|⟨q1,e1⟩<;>rcases hat rs ⟨cs⟩ r i hkr hr with ⟨q2,e2⟩|⟨q2,e2⟩|⟨q2,e2⟩<;>try omega
  ·exact GoT.monoO (f3 i y r e1 e2) (fun a ha=>.inl ⟨q1,ha⟩)
  ·subst e1;subst e2
   exact GoT.monoO h1 (fun a ha=>.inr (.inl ⟨q1,ha⟩))
  ·exact GoT.monoO (f3 (i-1) y r e1 e2) (fun a ha=>.inr (.inr ⟨q1,ha⟩))
theorem SH.elsPutN {x:α} {cs:List Value} {xs:List α} {rs:List (Raw α)} {k:Nat} (h:SH w0 w (Ch.own Se x cs::Ch.elsB S k xs rs::L)) :
  SH w0 w (Ch.els (fun b=>Se b∨S b) (xs.set k x) (rs.set k ⟨cs⟩)::L):=by
 have hap:=(List.pairwise_cons.1 h.apart).1 (Ch.elsB S k xs rs) (jq ..)
 refine h.join (e:=Ch.els (fun b=>Se b∨S b) (xs.set k x) (rs.set k ⟨cs⟩)) (fun h1 h2=>?_) (fun _ hb=>hb) (fun _ h=>h.elim)
 obtain ⟨hl,F,f1,f2,f4,f3⟩:=h2
 refine ⟨by simp [hl],fun i a=>if i=k then Se a else F i a,fun i a ha=>?_,fun i j a hne ha hb=>?_,fun i y q hy hq=>?_⟩
 ·by_cases hi:i=k
  ·simp only [if_pos hi] at ha;exact .inl ha
  ·simp only [if_neg hi] at ha;exact .inr (f1 i a ha)
 ·by_cases hi:i=k
  ·simp only [if_pos hi] at ha
   by_cases hj:j=k
   ·omega
   ·simp only [if_neg hj] at hb;exact hap a ha (f1 j a hb)
  ·simp only [if_neg hi] at ha
   by_cases hj:j=k
   ·simp only [if_pos hj] at hb;exact hap a hb (f1 i a ha)
   ·simp only [if_neg hj] at hb;exact f2 i j a hne ha hb
 ·by_cases hi:i=k
  ·subst hi
   have hlt:i<xs.length:=by have:=(List.getElem?_eq_some_iff.1 hy).1;simpa using this
   rw [List.getElem?_set_self hlt] at hy
   rw [List.getElem?_set_self (by omega)] at hq
   obtain rfl:=Option.some.inj hy
   obtain rfl:=Option.some.inj hq
   simp only [if_true]
   exact h1
  ·rw [List.getElem?_set_ne (fun e=>hi e.symm)] at hy hq
   simpa [hi] using f3 i y q hi hy hq
theorem SH.elsR {xs:List α} {rs:List (Raw α)} {k:Nat} {x:α} {r:Raw α} (m:Nat) (h:SH w0 w L) (hi:L[m]?=some (Ch.els S xs rs)) (hx:xs[k]?=some x) (hr:rs[k]?=some r):GoT.R w (Fw.old w) x r.cs:=by
 obtain ⟨⟨_,F,f1,_,f3⟩,hS⟩:=h.mem hi
 exact GoT.mono (GoT.toR (f3 k x r hx hr)) (fun a ha=>(hS a (f1 k a ha)).2)
theorem SH.elsLen {xs:List α} {rs:List (Raw α)} (m:Nat) (h:SH w0 w L) (hi:L[m]?=some (Ch.els S xs rs)):xs.length=rs.length:=(h.mem hi).1.1
theorem SH.insFin {t:α} {xs:List α} {q:Raw α} {rs rs':List (Raw α)} {St:Nat→Prop} {p:Option Addr} {ln c:Nat} (k:Nat) (hk:k≤xs.length) (hr:rs'=rs.take k++q::rs.drop k)
  (h:SH w0 w (Ch.own S rs' [.slice p ln c]::Ch.els Se xs rs::Ch.els St [t] [q]::L)):∃ S',SH w0 w (Ch.own S' (xs.take k++t::xs.drop k) [.slice p ln c]::L):=by
 replace h:=h.pickT 3 [2,1,0] rfl
 obtain ⟨S3,S4,h⟩:=h.elsTake (k:=0) (x:=t) (r:=q) rfl rfl
 replace h:=h.pickT 4 [0,2,3] rfl
 replace h:=h.elsIns k hk
 replace h:=h.pickT 2 [1,0] rfl
 subst hr
 exact ⟨_,h.joinL⟩
theorem qsj (hT:TabOk P T) {all:Array Oper} {l:List Oper} {d t ty el:Nat} {ps:String} {af:Array Edge} {parts:Array (Nat × Operand)} {te te':TE} {zv v:Value} {o:Operand} {x:α} {S1:Nat→Prop}
  (h:SH w0 w (Ch.own S1 x (cellsL v)::L)) (hparts:parts.toList=[(0,o)]) (hv:opv e o=some v)
  (hte:T.get t=some te) (hk:te.kind=.slice el) (hel:T.get el=some te') (hz:te'.zero=some zv) (hsz:te'.size=GoT.k α) (hsmall:Nat.ble (1*te'.size) 16777216=true) (hn:Nat.blt d n=true)
  (hkk:∀ w' p S,SH w0 w' (Ch.own S [x] [.slice p 1 1]::L)→Run P n Q (.ops all l::k) ((d,.slice p 1 1)::e) w') :
  Run P n Q (.ops all (⟨some d,.buildSlice t 1 parts,ty,ps,af,none⟩::l)::k) e w:=by
 obtain ⟨hO,hS⟩:=h.holds _ (jq ..)
 have hO:GoT.O w S1 x (cellsL v):=hO
 have hln:=GoT.len (GoT.toR hO)
 have hcs:∀ u ∈ [v],(cellsL u).length=te'.size:=fun u hu=>by rw [List.mem_singleton.1 hu,hsz];exact hln
 have hr:=qjO hT [v] hte hk hel hz (js hsmall) hcs w
 refine qiQ (v:=.slice (some ⟨w.heap.size,0,none⟩) 1 1) (w':=w.alloc (.cells ([v].map cellsL).flatten.toArray el)) rfl rfl hn (fun a ha=>?_)
  (hkk _ _ (fun b=>S1 b∨b=w.heap.size) (h.upd (i:=0) (c':=Ch.own (fun b=>S1 b∨b=w.heap.size) [x] [.slice (some ⟨w.heap.size,0,none⟩) 1 1]) (w':=w.alloc (.cells ([v].map cellsL).flatten.toArray el)) rfl rfl rfl rfl (by simp) (fun b hb _=>heap_alloc_old w _ hb) ?_ (fun b hb=>hb.imp id (fun e=>⟨by omega,by simp;omega⟩)) (fun _ hd=>hd.elim)))
 ·have hev:parts.map (fun (x:Nat × Operand)=>(x.1,a.eval x.2))=(([v].zipIdx 0).map fun x=>(x.2,x.1)).toArray:=by
   apply Array.ext'
   rw [Array.toList_map,hparts]
   simp [ha.eval hv]
  simp only [execOp,hev,jl,jn]
  rw [show Sem.run P (Instr.buildSlice t 1 _) w=_ from hr]
  rfl
 ·refine ⟨some ⟨w.heap.size,0,none⟩,1,rfl,by simp,by simp [maxLen],.inr ⟨w.heap.size,(cellsL v).toArray,el,fun i a=>i=0∧S1 a,rfl,.inr rfl,?_,by simp [hln],fun i a ha=>⟨.inl ha.2,fun e=>by have:=(hS a ha.2).2;omega⟩,fun i j a hne ha hb=>hne (ha.1.trans hb.1.symm),fun i y hi=>?_⟩⟩
  ·rw [heap_alloc_new w _];simp
  ·have hi0:i=0:=by have:=(List.getElem?_eq_some_iff.1 hi).1;simpa using this
   subst hi0
   obtain rfl:x=y:=by simpa using hi
   exact ⟨cellsL v,GoT.monoO (GoT.locO hO (fun a ha=>heap_alloc_old w _ (hS a ha).2)) (fun a ha=>⟨rfl,ha⟩),fun j u hj=>by simpa using hj⟩
end
end
end Go.Fw


namespace Go.Fw
open Go Go.Proofs
open Go.RowKit (Below)
set_option maxRecDepth 100000
set_option maxHeartbeats 6400000
def insS (xs:List (List Int)) (i:Int) (t:List Int):Option (List (List Int)) :=
 if 0≤i∧i≤xs.length∧xs.length≤1000000 then some (xs.take i.toNat++t::xs.drop i.toNat) else none
theorem qol {xs r:List (List Int)} {i:Int} {t:List Int} (h:insS xs i t=some r):∃ k:Nat,i=(k:Int)∧k≤xs.length∧xs.length≤1000000∧xs.take k++t::xs.drop k=r:=by
 unfold insS at h
 split at h
 ·rename_i hh
  exact ⟨i.toNat,by omega,by omega,hh.2.2,Option.some.inj h⟩
 ·cases h
theorem subP1 {b o c l:Nat} (h:c ≠ l):subP 1 (some ⟨b,o,none⟩) c l=some ⟨b,o+l,none⟩:=by unfold subP;rw [if_neg h];simp [qfQ]
theorem insCells {rs:List (Raw (List Int))} {cs CS:List Value} {q:Raw (List Int)} {qv:Value} {k n:Nat} (hn:rs.length=n) (hkn:k<n) (hcs:∀ (j:Nat) (r:Raw (List Int)),rs[j]?=some r→∃ v:Value,r.cs=[v]∧v.oneCell'=true∧cs[j]?=some v)
  (hq1:q.cs=[qv]) (hq2:qv.oneCell'=true) (h1:∀ j,j<k→CS[j]?=cs[j]?) (h2:CS[k]?=some qv) (h3:∀ j,k≤j→j<n→CS[j+1]?=cs[j]?) (j:Nat) (r:Raw (List Int)) (hj:(rs.take k++q::rs.drop k)[j]?=some r) :
  ∃ v:Value,r.cs=[v]∧v.oneCell'=true∧CS[j]?=some v:=by
 have htl:(rs.take k).length=k:=by simp;omega
 rcases Nat.lt_or_ge j k with hjk|hjk
 ·rw [ju (by omega),jt,if_pos hjk] at hj
  obtain ⟨v,e1,e2,e3⟩:=hcs j r hj
  exact ⟨v,e1,e2,by rw [h1 j hjk];exact e3⟩
 ·rw [jD (by omega),htl] at hj
  rcases Nat.eq_or_lt_of_le hjk with e|hlt
  ·subst e
   rw [Nat.sub_self] at hj
   obtain rfl:q=r:=by simpa using hj
   exact ⟨qv,hq1,hq2,h2⟩
  ·rw [show j-k=(j-1-k)+1 by omega,jP,jA,show k+(j-1-k)=j-1 by omega] at hj
   obtain ⟨v,e1,e2,e3⟩:=hcs (j-1) r hj
   have hlt2:j-1<rs.length:=(List.getElem?_eq_some_iff.1 hj).1
   have:=h3 (j-1) (by omega) (by omega)
   rw [show j-1+1=j by omega] at this
   exact ⟨v,e1,e2,by rw [this];exact e3⟩
theorem qr3 {w0 w:World} {F:List Ch} {S S1:Nat→Prop} {xs r:List (List Int)} {t:List Int} {i:Int} {p p1:Option Addr} {ln c ln1 c1:Nat}
  (h:SH w0 w (Ch.own S1 [t] [.slice p1 ln1 c1]::Ch.own S xs [.slice p ln c]::F)) (hF:insS xs i t=some r):RetT Tryz.prog 162 [.slice p ln c,.int .i64 i,.slice p1 ln1 c1] w w0 F r:=by
 obtain ⟨k,rfl,hk,hbig,rfl⟩:=qol hF
 obtain rfl:ln=xs.length:=(h.sl 1 rfl).2
 obtain rfl:ln1=[t].length:=(h.sl 0 rfl).2
 obtain ⟨Sv,St,rv,hrv,h⟩:=h.splitL
 replace h:=h.pickT 3 [2,0,1] rfl
 obtain ⟨Sr,Se,rs,hrs,h⟩:=h.splitL
 match rv,hrv with
 | [q],_ =>
 replace h:=h.pickT 4 [0,2,1,3] rfl
 refine qiZ Tryz.func162 rfl (m:=95) rfl rfl ?_
 have h:SH w0 w (Ch.own Sr rs [.slice p xs.length c]::Ch.own Sv [q] [.slice p1 1 c1]::Ch.els Se xs rs::Ch.els St [t] [q]::F):=h
 have hc:xs.length≤c∧c≤maxLen:=by have:=(h.sl 0 rfl).1;exact ⟨by have:=this.1;omega,this.2.1⟩
 obtain ⟨pa,hpa⟩:∃ z,subP 1 p c k=z:=⟨_,rfl⟩
 refine X0 8 rfl (r_v (qdb qb rfl rfl rfl ⟨by omega,by omega,by omega,by omega⟩ hpa rfl rfl rfl rfl rfl rfl) rfl ?_)
 refine X0 13 rfl ?_
 refine qbJ rfl rfl ?_
 refine X0 14 rfl ?_
 refine qkD rfl (fun ht=>?_) (fun hf=>?_)
 ·have hkn:k=xs.length:=by have:=eq_of_beq ht;omega
  refine X0 4 rfl ?_
  refine qmo qb (α:=Raw (List Int)) 0 h rfl (h.sl 1 rfl).1 (h.sl 1 rfl).2 rfl rfl rfl rfl rfl rfl rfl rfl rfl (by rw [hrs];simp [big];omega) rfl fun w1 p2 c2 S2 h=>?_
  refine X0 2 rfl ?_
  replace h:=h.pickT 4 [0,2,3] rfl
  obtain ⟨S3,h⟩:=SH.insFin k hk (rs':=rs++[q]) (by rw [List.take_of_length_le (by omega),Jd (by omega)]) h
  exact qjG qb h ⟨rfl,trivial⟩
 refine X0 8 rfl ?_
 have hkn:k<xs.length:=by
  rcases Nat.lt_or_ge k xs.length with hh|hh
  ·exact hh
  ·have e:k=xs.length:=by omega
   rw [e,beq_self_eq_true] at hf
   cases hf
 rcases (h.sl 0 rfl).1.2.2 with ⟨_,hnil⟩|⟨b,o,cur,T,fr,rfl,-⟩
 ·rw [hnil] at hrs;simp at hrs;omega
 rcases (h.sl 1 rfl).1.2.2 with ⟨_,hnil⟩|⟨b1,o1,cur1,T1,fr1,rfl,-⟩
 ·cases hnil
 obtain ⟨rfl,-,-,-,-,cs,tb,hcl,hcs,h⟩:=h.toBox rfl
 replace h:=h.pickT 4 [1,0,2,3] rfl
 obtain ⟨rfl,-,-,hc1,-,cs1,tb1,hcl1,hcs1,h⟩:=h.toBox rfl
 replace h:=h.pickT 4 [1,0,2,3] rfl
 have h:SH w0 w (Ch.box b cs tb::Ch.box b1 cs1 tb1::Ch.els Se xs rs::Ch.els St [t] [q]::F):=h
 obtain ⟨qv,hq1,hq2,hq3⟩:=hcs1 0 q rfl
 have hW1:W64 ((xs.length:Int)+([t].length:Int))=((xs.length+1:Nat):Int):=by
  rw [qaz (by simp;omega) (by simp;omega)];simp
 have hW2:some (Value.int .i64 (W64 (W64 ((xs.length:Int)+([t].length:Int))-(k:Int))))=some (Value.int .i64 ((xs.length+1-k:Nat):Int)):=by
  rw [hW1,qaz (by omega) (by omega)];congr 2;omega
 have hcut:∀ (j:Nat) (v:Value),(cs.take xs.length)[j]?=some v→v.oneCell'=true:=fun j v hj=>by
  rw [jt] at hj
  split at hj
  ·obtain ⟨u,_,e2,e3⟩:=hcs j rs[j] (ji (by omega))
   rw [e3] at hj
   exact (Option.some.inj hj) ▸ e2
  ·cases hj
 have hW3:some (W64 ((k:Int)+([t].length:Int)))=some ((k+1:Nat):Int):=by
  rw [qaz (by simp;omega) (by simp;omega)];simp
 have hvl:((cs.take xs.length).drop k).length=xs.length-k:=by simp;omega
 have hs2:∀ w',(Ch.box b cs tb).P w'→CellsAt w' b (0+k) ((cs.take xs.length).drop k):=fun w' hw j v hj=>by
  have hw:w'.heap[b]?=some (.cells cs.toArray tb (0,0)):=hw
  rw [jA] at hj
  rw [jt] at hj
  split at hj
  ·have:=CellsAt.of_block (o:=0+k) (cs:=cs.drop k) hw (fun j v hj=>by rw [jA] at hj;simpa using hj) j v (by rw [jA];exact hj)
   exact this
  ·cases hj
 refine r_v (qt3 qb rfl rfl rfl) rfl ?_
 refine X0 2 rfl ?_
 refine qkD rfl (fun ht=>?_) (fun hf2=>?_)
 ·have hroom:c<k+(xs.length+1-k):=by
   have ht:decide (W64 ((xs.length:Int)+([t].length:Int)) > (c:Int))=true:=ht
   have:=of_decide_eq_true ht
   rw [hW1] at this;omega
  refine X0 4 rfl ?_
  refine r_v (qdb qb rfl rfl rfl ⟨by omega,by omega,by omega,by omega⟩ (subP1 (b:=b) (o:=0) (c:=c) (l:=0) (by omega)) rfl rfl rfl rfl rfl rfl) rfl ?_
  have hs:CellsAt w b 0 (cs.take k):=fun j v hj=>(h.box 0 rfl) j v (by
   rw [jt] at hj
   split at hj
   ·exact hj
   ·cases hj)
  refine X0 5 rfl ?_
  refine qtc qb (xs.length+1-k) h hs (m:=k) (by simp;omega) rfl hW2 rfl rfl rfl rfl rfl rfl rfl rfl rfl (by omega) hroom (by omega) rfl fun w2 b2 cap Z h hcap hcm hzl _ _=>?_
  refine X0 6 rfl ?_
  refine r_v (qdb qb rfl rfl rfl ⟨by omega,by omega,by omega,by omega⟩ (subP1 (b:=b2) (o:=0) (c:=cap) (l:=k) (by omega)) rfl rfl rfl rfl rfl rfl) rfl ?_
  refine X0 1 rfl ?_
  have hs1:CellsAt w2 b1 0 [qv]:=fun j v hj=>(h.box 2 rfl) j v (by
   have hj0:j=0:=by have:=(List.getElem?_eq_some_iff.1 hj).1;simpa using this
   subst hj0
   rw [hq3];exact hj)
  refine qmU qb 0 h rfl hs1 rfl rfl rfl rfl rfl rfl (by simp [Nat.min_def];omega) (by rw [hzl];simp;omega) (fun v hv=>by rw [List.mem_singleton.1 hv];exact hq2) rfl fun w3 h=>?_
  refine X0 2 rfl ?_
  have hlen1:(splice (cs.take k++Z) (0+k) [qv]).length=cap:=by rw [qcj (by rw [hzl];simp;omega),hzl]
  refine rA [] [] h rfl fun w4 h=>M0 111 [0,1,2,3,5,6] (h.pick [] rfl) rfl ?_
  refine Aw 4 127 (fun w' _=>qdb (x:=.tmp 46) (lo:=some (.tmp 49)) (hi:=none) (t:=47) qb rfl hW3 rfl ⟨by omega,by omega,by omega,by omega⟩ (subP1 (b:=b2) (o:=0) (c:=cap) (l:=k+1) (by omega)) rfl rfl rfl rfl rfl rfl) (h.pick [] rfl) rfl ?_
  refine Aw 7 255 (fun w' _=>qdb (x:=.tmp 51) (lo:=some (.tmp 52)) (hi:=none) (t:=47) qb rfl rfl rfl ⟨by omega,by omega,by omega,by omega⟩ (subP1 (b:=b) (o:=0) (c:=c) (l:=k) (by omega)) rfl rfl rfl rfl rfl rfl) (h.pick [] rfl) rfl ?_
  have hb1:=hs2 w4 (h.mem (i:=1) rfl).1
  refine Ao 8 511 rfl (qmU qb 0 h rfl hb1 rfl rfl rfl rfl rfl rfl (by rw [hvl];simp [Nat.min_def];omega) (by rw [hlen1,hvl];omega) (fun v hv=>?_) rfl fun w5 h=>?_)
  ·rw [List.mem_iff_getElem?] at hv
   obtain ⟨j,hj⟩:=hv
   rw [jA] at hj
   exact hcut _ _ hj
  refine Ag (h.pick [] rfl) (Ad ?_)
  refine X0 5 rfl ?_
  replace h:=h.pickT 5 [0,3,4] rfl
  have hlen2:(splice (splice (cs.take k++Z) (0+k) [qv]) (0+(k+1)) ((cs.take xs.length).drop k)).length=cap:=by rw [qcj (by rw [hlen1,hvl];omega),hlen1]
  have hrl:(rs.take k++q::rs.drop k).length=k+(xs.length+1-k):=by simp;omega
  replace h:=SH.ofBox (α:=List Int) rfl (rs:=rs.take k++q::rs.drop k) h hlen2 (by rw [hrl];omega) hcm (insCells hrs hkn hcs hq1 hq2 (fun j hj=>?_) ?_ fun j h1 h2=>?_)
  ·rw [hrl] at h
   obtain ⟨S3,h⟩:=SH.insFin k hk rfl h
   exact qjG qb h ⟨rfl,trivial⟩
  ·rw [getElem?_splice (by rw [hlen1,hvl];omega),if_pos (by omega),getElem?_splice (by rw [hzl];simp;omega),if_pos (by omega),ju (by simp;omega),jt,if_pos hj]
  ·rw [getElem?_splice (by rw [hlen1,hvl];omega),if_pos (by omega),getElem?_splice (by rw [hzl];simp;omega),if_neg (by omega),if_pos (by simp)]
   simp
  ·rw [getElem?_splice (by rw [hlen1,hvl];omega),if_neg (by omega),if_pos (by rw [hvl];omega),jA,jt,if_pos (by omega)]
   congr 1;omega
 refine X0 7 rfl ?_
 have hcap:xs.length+1≤c:=by
  have hf2:decide (W64 ((xs.length:Int)+([t].length:Int)) > (c:Int))=false:=hf2
  have:=of_decide_eq_false hf2
  rw [hW1] at this;omega
 refine r_v (qsg qb rfl rfl (congrArg some hW1) ⟨by omega,by omega,by omega⟩ (subP1 (b:=b) (o:=0) (c:=c) (l:=0) (by omega)) rfl rfl rfl rfl rfl rfl) rfl ?_
 refine X0 10 rfl ?_
 refine r_v (qdb qb rfl hW3 rfl ⟨by omega,by omega,by omega,by omega⟩ (subP1 (b:=b) (o:=0+0) (c:=c) (l:=k+1) (by omega)) rfl rfl rfl rfl rfl rfl) rfl ?_
 have hne:b1 ≠ b:=fun hab=>(List.pairwise_cons.1 h.apart).1 (Ch.box b1 cs1 tb1) (jq ..) b rfl hab.symm
 have hov:∀ lb cb,(callFunc 199 [Value.slice (some ⟨b1,0,none⟩) [t].length c1,.slice (some ⟨b,0+0+(k+1),none⟩) lb cb].toArray).run Tryz.prog w=.ok (.value (.bool false)) w:=fun lb cb=>by
  rw [run_callFunc_extern Tryz.func199 (by kernel_rfl) (by kernel_rfl) (by kernel_rfl) (e:=Extern.SlicesOverlaps.overlaps #[47,47] #[4]) (by kernel_rfl)]
  show ((Extern.SlicesOverlaps.overlaps #[47,47] #[4] #[.slice (some ⟨b1,0,none⟩) 1 c1,.slice (some ⟨b,0+0+(k+1),none⟩) lb cb]).run Tryz.prog w).andThen _=_
  rw [Lib.run_overlaps_apart w 47 4 36 Tryz.underlying47 1 (fun w=>qfZ (qb 36 _ rfl) w) ⟨b1,0,none⟩ ⟨b,0+0+(k+1),none⟩ 1 c1 lb cb hne tb1 tb cs1.length cs.length (qn9 (h.boxAt (i:=1) rfl)) (qn9 (h.boxAt (i:=0) rfl)) (by omega) (qnh (h.boxAt (i:=1) rfl) _) (qnh (h.boxAt (i:=1) rfl) _)]
  rfl
 refine qt6 rfl rfl (hov _ _) rfl ?_
 refine X0 2 rfl ?_
 refine qdF rfl rfl ?_
 refine X0 1 rfl ?_
 have hlen1:(splice cs (0+0+(k+1)) ((cs.take xs.length).drop k)).length=c:=by rw [qcj (by rw [hvl];omega),hcl]
 refine rA [] [] h rfl fun w4 h=>M0 111 [0,1,2,3,5,6] (h.pick [] rfl) rfl ?_
 refine Aw 4 127 (fun w' _=>qdb (x:=.tmp 69) (lo:=some (.tmp 72)) (hi:=none) (t:=47) qb rfl hW3 rfl ⟨by omega,by omega,by omega,by omega⟩ (subP1 (b:=b) (o:=0+0) (c:=c) (l:=k+1) (by omega)) rfl rfl rfl rfl rfl rfl) (h.pick [] rfl) rfl ?_
 refine Aw 7 255 (fun w' _=>qdb (x:=.tmp 74) (lo:=some (.tmp 75)) (hi:=none) (t:=47) qb rfl rfl rfl ⟨by omega,by omega,by omega,by omega⟩ (subP1 (b:=b) (o:=0+0) (c:=c) (l:=k) (by omega)) rfl rfl rfl rfl rfl rfl) (h.pick [] rfl) rfl ?_
 have hb1:=hs2 w4 (h.mem (i:=0) rfl).1
 refine Ao 8 511 rfl (qmU qb 0 h rfl hb1 rfl rfl rfl rfl rfl rfl (by rw [hvl];simp [Nat.min_def];omega) (by rw [hvl];omega) (fun v hv=>?_) rfl fun w5 h=>?_)
 ·rw [List.mem_iff_getElem?] at hv
  obtain ⟨j,hj⟩:=hv
  rw [jA] at hj
  exact hcut _ _ hj
 refine Ag (h.pick [] rfl) (Ad ?_)
 refine X0 4 rfl ?_
 refine r_v (qdb qb rfl rfl rfl ⟨by omega,by omega,by omega,by omega⟩ (subP1 (b:=b) (o:=0+0) (c:=c) (l:=k) (by omega)) rfl rfl rfl rfl rfl rfl) rfl ?_
 refine X0 1 rfl ?_
 have hs1:CellsAt w5 b1 0 [qv]:=fun j v hj=>(h.box 1 rfl) j v (by
  have hj0:j=0:=by have:=(List.getElem?_eq_some_iff.1 hj).1;simpa using this
  subst hj0
  rw [hq3];exact hj)
 refine qmU qb 0 h rfl hs1 rfl rfl rfl rfl rfl rfl (by simp [Nat.min_def];omega) (by rw [hlen1];simp;omega) (fun v hv=>by rw [List.mem_singleton.1 hv];exact hq2) rfl fun w6 h=>?_
 refine X0 6 rfl ?_
 replace h:=h.pickT 4 [0,2,3] rfl
 have hlen2:(splice (splice cs (0+0+(k+1)) ((cs.take xs.length).drop k)) (0+0+k) [qv]).length=c:=by rw [qcj (by rw [hlen1];simp;omega),hlen1]
 have hrl:(rs.take k++q::rs.drop k).length=xs.length+1:=by simp;omega
 replace h:=SH.ofBox (α:=List Int) rfl (rs:=rs.take k++q::rs.drop k) h hlen2 (by rw [hrl];omega) hc.2 (insCells hrs hkn hcs hq1 hq2 (fun j hj=>?_) ?_ fun j h1 h2=>?_)
 ·rw [hrl] at h
  obtain ⟨S3,h⟩:=SH.insFin k hk rfl h
  exact qjG qb h ⟨rfl,trivial⟩
 ·rw [getElem?_splice (by rw [hlen1];simp;omega),if_pos (by omega),getElem?_splice (by rw [hvl];omega),if_pos (by omega)]
 ·rw [getElem?_splice (by rw [hlen1];simp;omega),if_neg (by omega),if_pos (by simp)]
  simp
 ·rw [getElem?_splice (by rw [hlen1];simp;omega),if_neg (by omega),if_neg (by simp;omega),getElem?_splice (by rw [hvl];omega),if_neg (by omega),if_pos (by rw [hvl];omega),jA,jt,if_pos (by omega)]
  congr 1;omega
end Go.Fw


namespace Go.Fw
open Go Go.Proofs
open Go.RowKit (Below)
set_option maxRecDepth 100000
set_option maxHeartbeats 6400000
def qgS (n:Nat) (tags:List (List Int)) (tag:List Int):Option (List (List Int)) :=
 (qaj n tags tag).bind fun o=>match o with
  | (i,found)=>bif found then some tags else insS tags i tag
theorem qlb {n:Nat} {w0 w:World} {F:List Ch} {S S1:Nat→Prop} {tags r:List (List Int)} {tag:List Int} {p p1:Option Addr} {ln c ln1 c1:Nat}
  (h:SH w0 w (Ch.own S1 tag [.slice p1 ln1 c1]::Ch.own S tags [.slice p ln c]::F)) (hF:qgS n tags tag=some r):RetT Tryz.prog 102 [.slice p ln c,.slice p1 ln1 c1] w w0 F r:=by
 obtain rfl:ln=tags.length:=(h.sl 1 rfl).2
 obtain rfl:ln1=tag.length:=(h.sl 0 rfl).2
 obtain ⟨⟨i,fd⟩,hr,hF⟩:=qe hF
 refine qiZ Tryz.func102 rfl (m:=20) rfl rfl ?_
 refine X0 8 rfl ?_
 refine qbZ (i,fd) h (cB 160 rfl) (qds (h.own 1 rfl) (h.own 0 rfl) hr) rfl rfl rfl rfl fun w2 S2 us hv hr2=>?_
 obtain ⟨S3,us2,rfl,hv2,hr3⟩:=hv.consI hr2
 obtain ⟨rfl,h⟩:=hv2.lastB hr3
 refine X0 11 rfl (qk rfl hF ?_ ?_)<;>intro hF
 ·refine X0 5 rfl ?_
  cases hF
  replace h:=h.pickT 2 [1] rfl
  exact qjG qb h ⟨rfl,trivial⟩
 refine X0 6 rfl ?_
 refine qsj qb h rfl rfl rfl rfl rfl rfl rfl rfl rfl fun w3 p2 S4 h=>?_
 refine qlt (cB 162 rfl) (qr3 h hF) rfl rfl rfl rfl fun w4 S5 p3 k3 h=>?_
 refine X0 2 rfl ?_
 exact qjG qb h ⟨rfl,trivial⟩
end Go.Fw


namespace Go.Fw
open Go Go.Proofs
open Go.RowKit (Below)
set_option maxRecDepth 100000
set_option maxHeartbeats 6400000
def qd2 (list:List (List Int)) (tag:List Int):Nat→Int→Option (Flow (List (List Int)) Int)
 | 0,_=>none
 | n+1,i =>
  bif decide (i<(list.length:Int)) then
   (idx list i).bind fun y =>
   (qfA n y tag).bind fun r =>
   bif (r==0) then some (.ret list) else
   qd2 list tag n (W64 (i+1))
  else some (.nxt i)
def qd6 (list:List (List Int)) (tag:List Int):Nat→Int→Option Int
 | 0,_=>none
 | n+1,a =>
  bif decide (a > 0) then
   (idx list (W64 (a-1))).bind fun y =>
   (qfA n tag y).bind fun r =>
   bif decide (r<0) then qd6 list tag n (W64 (a-1)) else some a
  else some a
def qiR (n:Nat) (list:List (List Int)) (tag:List Int):Option (List (List Int)) :=
 (qd2 list tag n 0).bind fun o=>match o with
  | .ret r=>some r
  | .nxt _=>(qd6 list tag n (list.length:Int)).bind fun a=>insS list a tag
theorem qnJ {n:Nat} {w0 w:World} {F:List Ch} {S S1:Nat→Prop} {list r:List (List Int)} {tag:List Int} {p p1:Option Addr} {ln c ln1 c1:Nat}
  (h:SH w0 w (Ch.own S1 tag [.slice p1 ln1 c1]::Ch.own S list [.slice p ln c]::F)) (hF:qiR n list tag=some r):RetT Tryz.prog 104 [.slice p ln c,.slice p1 ln1 c1] w w0 F r:=by
 obtain rfl:ln=list.length:=(h.sl 1 rfl).2
 obtain rfl:ln1=tag.length:=(h.sl 0 rfl).2
 refine qiZ Tryz.func104 rfl (m:=52) rfl rfl ?_
 refine X0 15 rfl ?_
 obtain ⟨o1,hF,hK1⟩:=qe hF
 refine ql (rL (fun m e w'=>∃ (i1:Int),qd2 list tag m i1=some o1∧e=[(0,.slice p list.length c),(1,.slice p1 tag.length c1),(5,.int .i64 list.length),(6,.int .i64 i1)]∧SH w0 w' (Ch.own S1 tag [.slice p1 tag.length c1]::Ch.own S list [.slice p list.length c]::F)) n ⟨_,hF,rfl,h⟩ rfl ?_)
 rintro m1 e1 w1 ⟨i1,hF,rfl,h⟩
 rcases m1 with _|m1
 ·cases hF
 refine X0 8 rfl (qk rfl hF ?_ ?_)<;>intro hF
 ·refine X0 7 rfl ?_
  obtain ⟨y1,hy1,hF,he1,b1,_,q1,cs3,hp1,hq1,hr1,hc2⟩:=(h.sl 1 rfl).1.ix hF
  obtain ⟨p3,k3,rfl,s3⟩:=hr1
  refine zxe hp1 hq1 he1 rfl (zc 0 hc2 rfl ?_)
  refine X0 1 rfl (zcI h hF (qiF ⟨_,_,rfl,s3⟩ (h.own 0 rfl)) rfl fun r1 w2 h hF=>?_)
  refine X0 2 rfl (qk rfl hF ?_ ?_)<;>intro hF
  ·refine X0 5 rfl ?_
   obtain rfl:=qc hF;replace hF:=hK1
   cases hF
   replace h:=h.pickT 2 [1] rfl
   exact qjG qb h ⟨rfl,trivial⟩
  refine X0 7 rfl ?_
  exact rK ⟨_,hF,rfl,h⟩ rfl
 refine qp rfl ?_
 obtain rfl:=qc hF;replace hF:=hK1
 obtain ⟨a,hF,hK2⟩:=qe hF
 refine X0 1 rfl ?_
 refine qa8 (fun e w'=>e=[(0,.slice p list.length c),(1,.slice p1 tag.length c1),(5,.int .i64 a)]∧SH w0 w' (Ch.own S1 tag [.slice p1 tag.length c1]::Ch.own S list [.slice p list.length c]::F)) ?_ ?_
 refine ql (rL (fun m e w'=>∃ (i2:Int),qd6 list tag m i2=some a∧e=[(0,.slice p list.length c),(1,.slice p1 tag.length c1),(5,.int .i64 i2)]∧SH w0 w' (Ch.own S1 tag [.slice p1 tag.length c1]::Ch.own S list [.slice p list.length c]::F)) n ⟨_,hF,rfl,h⟩ rfl ?_)
 rintro m2 e2 w2 ⟨i2,hF,rfl,h⟩
 rcases m2 with _|m2
 ·cases hF
 refine X0 6 rfl (qh (t:=26) hF rfl ?_ ?_)<;>intro hF
 ·refine X0 9 rfl ?_
  obtain ⟨y2,hy2,hF,he2,b2,_,q2,cs4,hp2,hq2,hr2,hc4⟩:=(h.sl 1 rfl).1.ix hF
  obtain ⟨p4,k4,rfl,s4⟩:=hr2
  refine zxe hp2 hq2 he2 rfl ?_
  refine X0 1 rfl (zc 0 hc4 rfl ?_)
  refine X0 1 rfl (zcI h hF (qiF (h.own 0 rfl) ⟨_,_,rfl,s4⟩) rfl fun r1 w2 h hF=>?_)
  refine X0 4 rfl (qk rfl hF ?_ ?_)<;>intro hF
  ·refine X0 8 rfl ?_
   exact rK ⟨_,hF,rfl,h⟩ rfl
  refine qp rfl ?_
  obtain rfl:=qc hF
  exact rG ⟨rfl,h⟩ rfl
 refine X0 10 rfl ?_
 refine qbJ rfl rfl ?_
 refine qp rfl ?_
 obtain rfl:=qc hF
 exact rG ⟨rfl,h⟩ rfl
 rintro _ w3 ⟨rfl,h⟩
 obtain ⟨k,rfl,hk,hbig,rfl⟩:=qol hK2
 replace h:=h.pickT 2 [1,0] rfl
 obtain ⟨Sr,Se,rs,hrs,h⟩:=h.splitL
 have hc:list.length≤c:=by have:=(h.sl 0 rfl).1.1;omega
 refine X0 2 rfl ?_
 refine qm qb [] [] ([]:List (Raw (List Int))) h rfl rfl rfl rfl rfl rfl rfl rfl rfl trivial rfl fun w4 p2 S2 h=>?_
 refine X0 2 rfl ?_
 refine r_v (qdb qb rfl rfl rfl ⟨by omega,by omega,by omega,by omega⟩ rfl rfl rfl rfl rfl rfl rfl) rfl ?_
 refine qmo qb (α:=Raw (List Int)) 0 h rfl ((h.sl 1 rfl).1.sub (lo:=0) (hi:=k) (jz _) (by omega)) (by simp;omega) rfl rfl rfl rfl rfl rfl rfl rfl rfl (by simp [big];omega) rfl fun w5 p3 c3 S3 h=>?_
 refine X0 6 rfl ?_
 refine qm qb [.tmp 44] _ ([⟨[.slice p1 tag.length c1]⟩]:List (Raw (List Int))) h rfl rfl rfl rfl rfl rfl rfl rfl rfl ⟨⟨rfl,rfl,fun v hv=>by rw [List.mem_singleton.1 hv];rfl⟩,trivial⟩ rfl fun w6 p4 S4 h=>?_
 refine qmo qb (α:=Raw (List Int)) 1 h rfl (h.sl 0 rfl).1 rfl rfl rfl rfl rfl rfl rfl rfl rfl rfl (by simp [big];omega) rfl fun w7 p5 c5 S5 h=>?_
 refine X0 7 rfl ?_
 refine r_v (qdb qb rfl rfl rfl ⟨by omega,by omega,by omega,by omega⟩ rfl rfl rfl rfl rfl rfl rfl) rfl ?_
 refine qmo qb (α:=Raw (List Int)) 1 h rfl ((h.sl 2 rfl).1.sub (lo:=k) (hi:=list.length) hk (by omega)) (by simp;omega) rfl rfl rfl rfl rfl rfl rfl rfl rfl (by simp [big];omega) rfl fun w8 p6 c6 S6 h=>?_
 refine X0 2 rfl ?_
 have hrs':([]++(rs.take k).drop 0++[(⟨[.slice p1 tag.length c1]⟩:Raw (List Int))])++(rs.take list.length).drop k=rs.take k++(⟨[.slice p1 tag.length c1]⟩:Raw (List Int))::rs.drop k:=by
  rw [List.take_of_length_le (show rs.length≤list.length by omega)];simp
 replace h:=h.pickT 5 [4,3,1] rfl
 have h:SH w0 w8 (Ch.own S1 tag [.slice p1 tag.length c1]::Ch.els Se list rs::Ch.own S6 (([]++(rs.take k).drop 0++[(⟨[.slice p1 tag.length c1]⟩:Raw (List Int))])++(rs.take list.length).drop k) [.slice p6 _ c6]::F):=h
 rw [hrs'] at h
 replace h:=h.elsIns k hk
 replace h:=h.pickT 2 [1,0] rfl
 exact qjG qb h.joinL ⟨rfl,trivial⟩
end Go.Fw


namespace Go.Fw
open Go
open Go.RowKit (Below)
section
variable {P:Program} {T:Tab} {n:Nat} {Q:Exit→Act→World→Prop} {k:List It} {e:Env} {w0 w w':World} {L:List Ch}
variable {β:Type} [GoT β] {Sr Se S1 S2:Nat→Prop} {X:List (List β)} {rs:List (Raw (List β))} {p:Option Addr} {ln c:Nat} {iv:Int} {y:List β}
def hdr (p:Option Addr) (ln c:Nat):Raw (List β):=⟨[.slice p ln c]⟩
theorem qh0 {S:Nat→Prop} {p1:Option Addr} {l1 k1:Nat}:GoT.R w S (hdr p1 l1 k1:Raw (List β)) [.slice p1 l1 k1]:=⟨rfl,rfl,fun v hv=>by rw [List.mem_singleton.1 hv];rfl⟩
theorem SH.matAt (i j:Nat) (h:SH w0 w L) (hi:L[i]?=some (Ch.own Sr rs [.slice p ln c])) (hj:L[j]?=some (Ch.els Se X rs)) (hy:idx X iv=some y) :
  ∃ b o q p1 k1,p=some ⟨b,o,none⟩∧q=o+iv.toNat*GoT.k (Raw (List β))∧(0≤iv∧iv<(ln:Int))∧idx rs iv=some (hdr p1 y.length k1)∧CellsAt w b q [.slice p1 y.length k1]∧SlR w (Fw.old w) y p1 k1:=by
 obtain ⟨h0,hlt,hx⟩:=qax hy
 have hlen:=h.elsLen j hj
 have hil:iv.toNat<rs.length:=by have:=(List.getElem?_eq_some_iff.1 hx).1;omega
 have hr:rs[iv.toNat]?=some rs[iv.toNat]:=ji hil
 obtain ⟨p1,k1,e1,s1⟩:=h.elsR j hj hx hr
 have hidx:idx rs iv=some (hdr p1 y.length k1):=by
  unfold idx
  rw [if_pos h0,hr]
  unfold hdr
  rw [←e1]
 obtain ⟨hs,hl⟩:=h.sl i hi
 obtain ⟨b,o,q,cs,hp,hq,_,hr2,hc⟩:=hs.at hidx
 obtain ⟨rfl,_,_⟩:=hr2
 exact ⟨b,o,q,p1,k1,hp,hq,⟨h0,by omega⟩,hidx,hc,s1⟩
theorem SH.matTake {p1:Option Addr} {k1:Nat} (h:SH w0 w (Ch.own Sr rs [.slice p ln c]::Ch.els Se X rs::L)) (hy:idx X iv=some y) (hr:idx rs iv=some (hdr p1 y.length k1)) :
  ∃ S1 S2,SH w0 w (Ch.own S1 y [.slice p1 y.length k1]::Ch.elsB S2 iv.toNat X rs::Ch.own Sr rs [.slice p ln c]::L):=by
 replace h:=h.pickT 2 [1,0] rfl
 exact h.elsTake (qax hy).2.2 (qax hr).2.2
theorem SH.matPut {y2:List β} {p2:Option Addr} {k2:Nat} (h:SH w0 w (Ch.own S1 y2 [.slice p2 y2.length k2]::Ch.elsB S2 iv.toNat X rs::Ch.own Sr (rs.set iv.toNat (hdr p2 y2.length k2)) [.slice p ln c]::L)) :
  ∃ S3,SH w0 w (Ch.own Sr (rs.set iv.toNat (hdr p2 y2.length k2)) [.slice p ln c]::Ch.els S3 (setS X iv y2) (rs.set iv.toNat (hdr p2 y2.length k2))::L):=by
 replace h:=h.elsPutN
 exact ⟨_,h.pickT 2 [1,0] rfl⟩
theorem rAB {id:Nat} {ops:List Oper} (st is:List Nat) {m:Nat} {L':List Ch} (h:SH w0 w L) (hh:(pickN L is,ops.length,P.follows .mixedOrders)=(some L',m,true))
  (hk:∀ w',Below w.heap.size w w'→SH w0 w' L→RunA P n Q k ops.toArray st (fun w'=>SH w0 w' L') m (bits m 0) e w'):Run P n Q (.code (.region id ops.toArray true)::k) e w:=by
 simp only [Prod.mk.injEq] at hh
 exact qtp st _ hh.2.2 m (by simpa using hh.2.1) _ qnY fun w' hb=>hk w' hb (h.ext hb)
theorem SlR.later {α:Type} [GoT α] {xs:List α} {p1:Option Addr} {c1:Nat} (h:SlR w (Fw.old w) xs p1 c1) (hb:Below w.heap.size w w'):SlR w' (Fw.old w') xs p1 c1 :=
 (h.loc fun b hS=>hb.block b hS).mono fun b hS=>jy hS hb.size
end
end Go.Fw


namespace Go.Fw
open Go Go.Proofs
open Go.RowKit (Below)
set_option maxRecDepth 100000
set_option maxHeartbeats 6400000
variable {n:Nat} {w:World} {cs1 cs2 cs3:List Value}
def qbs (list:List qa) (at_ next:Int) (y:List (List Int)):Nat→List (List (List Int))→Int→Option (List (List (List Int)) × Int)
 | 0,_,_=>none
 | n+1,X,s =>
  bif decide (s<(y.length:Int)) then
   (idx y s).bind fun t =>
   (qii n list t next).bind fun t2 =>
   (idx X next).bind fun z =>
   (qgS n z t2).bind fun z2 =>
   bif decide (at_.toNat=next.toNat) then none else
   qbs list at_ next y n (setS X next z2) (W64 (s+1))
  else some (X,s)
def qbq (list:List qa) (at_:Int) (succ:List Int):Nat→List (List (List Int))→Int→Option (List (List (List Int)) × Int)
 | 0,_,_=>none
 | n+1,X,j =>
  bif decide (j<(succ.length:Int)) then
   (idx succ j).bind fun next =>
   (idx X at_).bind fun y =>
   (qbs list at_ next y n X 0).bind fun o=>match o with
   | (X2,_)=>qbq list at_ succ n X2 (W64 (j+1))
  else some (X,j)
def qaP (v:Option Tview) (V:Tview) (list:List qa) (order:List Int):Nat→List (List (List Int))→Int→Option (Flow (List (List (List Int)) × Int) (List (List (List Int)) × Int))
 | 0,_,_=>none
 | n+1,X,i =>
  bif decide (i<(order.length:Int)) then
   (idx order i).bind fun at_ =>
   (idx V.places at_).bind fun pl =>
   (qeM n v pl).bind fun b =>
   (bif b then (qf0 n list [at_]).bind fun t=>(idx X at_).bind fun y=>(qgS n y t).bind fun y2=>some (setS X at_ y2) else some X).bind fun X1 =>
   (idx X1 at_).bind fun y =>
   bif decide ((y.length:Int) > 64) then some (.ret ([],3)) else
   (qbd n v at_).bind fun succ =>
   (qbq list at_ succ n X1 0).bind fun o=>match o with
   | (X2,_)=>qaP v V list order n X2 (W64 (i+1))
  else some (.nxt (X,i))
def qe8 (n:Nat) (v:Option Tview) (list:List qa):Option (List (List (List Int)) × Int) :=
 (qdC n v).bind fun o=>match o with
 | (order,ok) =>
  bif (!ok) then some ([],7) else
  v.bind fun V =>
  (mkS (V.places.length:Int) ([]:List (List Int))).bind fun X =>
  (qaP v V list order n X 0).bind fun o=>match o with
  | .ret r=>some r
  | .nxt (X2,_)=>some (X2,0)
theorem qoW {α:Type} {xs:List α} {iv:Int} {k:Nat} {v:α} (h:¬ iv.toNat=k):idx (xs.set k v) iv=idx xs iv:=by
 unfold idx
 rw [List.getElem?_set_ne (fun e=>h e.symm)]
theorem qk5 {v:Option Tview} {list:List qa} (ha1:GoT.R w (old w) v cs1) (ha2:GoT.R w (old w) list cs2) {r:List (List (List Int)) × Int} (hF:qe8 n v list=some r):RetV Tryz.prog 43 [GoT.v (Option Tview) cs1,GoT.v (List qa) cs2] w r:=by
 obtain ⟨pv,rfl,sv⟩:=qda ha1
 obtain ⟨pl,kl,rfl,sl⟩:=ha2
 refine zV 94 Tryz.func43 rfl fun h=>?_
 refine X0 8 rfl ?_
 obtain ⟨⟨order,ok⟩,ho,hF⟩:=qe hF
 refine qbZ (order,ok) h (cB 100 rfl) (qjX (h.old sv) ho) rfl rfl rfl rfl fun w1 S1 us hv hr=>?_
 obtain ⟨S2,S3,po,ko,us2,rfl,hv2,hr2⟩:=hv.consL hr
 obtain ⟨rfl,h⟩:=hv2.lastB hr2
 refine X0 12 rfl (qk rfl hF ?_ ?_)<;>intro hF
 ·refine X0 5 rfl ?_
  obtain rfl:=qc hF
  exact qar qb (ρ:=(List (List (List Int)) × Int)) [GoT.v (List (List (List Int))) [.slice none 0 0],GoT.v Int [.int .i64 7]] h ⟨rfl,rfl,trivial⟩ (PV.done h (qaC h qeO (qaD (qu (S:=fun _=>False) rfl)) (by rfl)))
 refine X0 4 rfl ?_
 obtain ⟨V,hV,hF⟩:=qe hF
 obtain ⟨b1,o_1,cs4,rfl,-,hr1,hc1⟩:=PtR.get sv hV
 obtain ⟨p2,k1,p3,k2,p4,k3,p5,k4,p6,k5,p7,k6,p8,k7,p9,k8,p10,k9,p11,k10,rfl,s2,s3,s4,s5,s6,s7,s8,s9,s10,s11⟩:=qgN hr1
 refine X0 2 rfl ?_
 refine zc 5 (hc1.below h.below) rfl (zp1 rfl ?_)
 obtain ⟨X0_,hx1,hF⟩:=qe hF
 obtain ⟨g1,g2,hx1⟩:=qfx hx1
 refine qgC qb (List (List Int)) h rfl rfl rfl rfl rfl rfl rfl rfl rfl g1 g2 hx1 rfl fun w2 S4 p12 h=>?_
 obtain ⟨Sr,Se,rs,hrs,h⟩:=h.splitL
 obtain ⟨o1,hF,hK1⟩:=qe hF
 refine X0 9 rfl ?_
 refine ql (rL (fun m e w'=>∃ (X:List (List (List Int))) (i:Int) (rs:List (Raw (List (List Int)))) (Se:Nat→Prop),qaP v V list order m X i=some o1∧e=[(0,.pointer (some ⟨b1,o_1,none⟩)),(1,.slice pl list.length kl),(8,.slice p12 X0_.length X0_.length),(28,.slice po order.length ko),(29,.int .i64 order.length),(30,.int .i64 i)]∧SH w w' [Ch.own Sr rs [.slice p12 X0_.length X0_.length],Ch.els Se X rs,Ch.own S2 order [.slice po order.length ko]]) n ⟨_,_,_,_,hF,rfl,h⟩ rfl ?_)
 rintro m1 e1 w3 ⟨X,i,rs,Se,hF,rfl,h⟩
 rcases m1 with _|m1
 ·cases hF
 refine X0 5 rfl (qk rfl hF ?_ ?_)<;>intro hF
 ·refine X0 5 rfl ?_
  obtain ⟨at_,hy1,hF,he1,b2,_,q1,cs5,hp1,hq1,rfl,hc2⟩:=(h.sl 2 rfl).1.ix hF
  refine zx hp1 hq1 ⟨he1.1,qI he1.2.1 (h.sl 2 rfl).2⟩ rfl (zc 0 hc2 rfl ?_)
  refine X0 9 rfl ?_
  refine zc 5 (hc1.below h.below) rfl ?_
  refine X0 1 rfl ?_
  obtain ⟨pc,hy2,hF,he2,b3,_,q2,cs6,hp2,hq2,hr2,hc3⟩:=s7.ix hF
  obtain rfl:=qcf hr2
  refine zxe hp2 hq2 he2 rfl (zc 0 (hc3.below h.below) rfl ?_)
  refine zcB h hF (qj6 (h.old sv) (h.old (qgO pc))) rfl fun bs w4 h hF=>?_
  refine X0 1 rfl ?_
  obtain ⟨G,hG,X1,hF,hK2⟩:=bindE hF
  refine qa8 (fun e w'=>∃ (X1:List (List (List Int))) (rs1:List (Raw (List (List Int)))) (Se1:Nat→Prop),G X1=some o1∧e=[(0,.pointer (some ⟨b1,o_1,none⟩)),(1,.slice pl list.length kl),(8,.slice p12 X0_.length X0_.length),(10,.int .i64 at_),(28,.slice po order.length ko),(29,.int .i64 order.length),(30,.int .i64 i)]∧SH w w' [Ch.own Sr rs1 [.slice p12 X0_.length X0_.length],Ch.els Se1 X1 rs1,Ch.own S2 order [.slice po order.length ko]]) ?_ ?_
  ·refine qk rfl hF ?_ ?_<;>intro hF
   ·obtain ⟨t,ht,hF⟩:=qe hF
    obtain ⟨y,hy,hF⟩:=qe hF
    obtain ⟨y2,hy2,hF⟩:=qe hF
    obtain rfl:=qc hF
    obtain ⟨bb,oo,q3,p13,k13,hp3,hq3,hlt3,hidx,hcl,hs⟩:=h.matAt 0 1 rfl rfl hy
    refine rA [12] [0] h rfl fun w5 h=>M0 207 [0,1,2,3,6,7] (h.pick [0] rfl) rfl ?_
    refine Aw 4 223 (fun w' _=>qlx (x:=.tmp 45) (i:=.tmp 46) (t:=88) qb hp3 hq3 hlt3 rfl rfl rfl rfl rfl rfl) (h.pick [0] rfl) rfl ?_
    refine Aw 5 255 (fun w' hw=>qfk (x:=.tmp 47) (t:=47) (j:=0) qb (qbo hw 0 rfl hidx hp3 hq3 (qh0 (S:=fun _=>False) (w:=w'))) rfl rfl rfl) (h.pick [0] rfl) rfl ?_
    refine Ao 8 511 rfl (qm qb [.tmp 50] _ ([at_]:List Int) h rfl rfl rfl rfl rfl rfl rfl rfl rfl ⟨rfl,trivial⟩ rfl fun w6 p14 S5 h=>?_)
    refine Ag (h.pick [1] rfl) (Ao 9 1023 rfl ?_)
    refine qbZ t h (cB 33 rfl) (qi3 ⟨_,_,rfl,(h.oldS sl)⟩ (h.own 0 rfl) ht) rfl rfl rfl rfl fun w7 S6 us hv hr=>?_
    obtain ⟨p15,k15,rfl,h⟩:=hv.lastL hr
    replace h:=h.pick [2,3,0,4] rfl
    obtain ⟨S7,S8,h⟩:=h.matTake hy hidx
    replace h:=h.pick [3,0,1,2,4] rfl
    refine Ag (h.pick [3] rfl) (Ao 10 2047 rfl ?_)
    refine qlt (cB 102 rfl) (qlb h hy2) rfl rfl rfl rfl fun w8 S9 p16 k16 h=>?_
    refine Ag (h.pick [2] rfl) ?_
    refine Aw 11 4095 (fun w' _=>qlx (x:=.tmp 43) (i:=.tmp 44) (t:=88) qb hp3 hq3 hlt3 rfl rfl rfl rfl rfl rfl) (h.pick [2] rfl) rfl ?_
    refine Ao 12 8191 rfl ?_
    refine qbE qb 2 0 (hdr p16 y2.length k16) h rfl hidx hp3 hq3 qh0 (qbo h 2 rfl hidx hp3 hq3 (qh0 (S:=fun _=>False) (w:=w8))) rfl rfl rfl qh0 rfl rfl rfl fun w9 h=>?_
    obtain ⟨S10,h⟩:=SH.matPut h
    refine qeh (fun hs=>absurd (hs 12 (by decide)) (by decide)) (Ad ?_)
    exact rG ⟨_,_,_,hK2,rfl,h⟩ rfl
   refine qeg ?_
   obtain rfl:=qc hF
   exact rG ⟨_,_,_,hK2,rfl,h⟩ rfl
  rintro _ w5 ⟨X1,rs1,Se1,hF,rfl,h⟩
  subst hG
  refine X0 5 rfl ?_
  obtain ⟨y,hy,hF⟩:=qe hF
  obtain ⟨bb,oo,q3,p13,k13,hp3,hq3,hlt3,hidx,hcl,hs⟩:=h.matAt 0 1 rfl rfl hy
  refine zx hp3 hq3 hlt3 rfl (zc 0 hcl rfl ?_)
  refine X0 3 rfl (qk rfl hF ?_ ?_)<;>intro hF
  ·refine X0 5 rfl ?_
   obtain rfl:=qc hF;replace hF:=hK1
   obtain rfl:=qc hF
   exact qar qb (ρ:=(List (List (List Int)) × Int)) [GoT.v (List (List (List Int))) [.slice none 0 0],GoT.v Int [.int .i64 3]] h ⟨rfl,rfl,trivial⟩ (PV.done h (qaC h qeO (qaD (qu (S:=fun _=>False) rfl)) (by rfl)))
  refine X0 5 rfl (zcL h hF (qdg (h.old sv)) rfl fun succ w6 S5 p14 k14 h hF=>?_)
  replace h:=h.pick [1,2,0,3] rfl
  obtain ⟨o2,hF,hK2⟩:=qe hF
  refine X0 3 rfl ?_
  refine ql (rL (fun m e w'=>∃ (X:List (List (List Int))) (j:Int) (rs:List (Raw (List (List Int)))) (Se:Nat→Prop),qbq list at_ succ m X j=some o2∧e=[(0,.pointer (some ⟨b1,o_1,none⟩)),(1,.slice pl list.length kl),(8,.slice p12 X0_.length X0_.length),(10,.int .i64 at_),(28,.slice po order.length ko),(29,.int .i64 order.length),(30,.int .i64 i),(63,.slice p14 succ.length k14),(64,.int .i64 succ.length),(65,.int .i64 j)]∧SH w w' [Ch.own Sr rs [.slice p12 X0_.length X0_.length],Ch.els Se X rs,Ch.own S5 succ [.slice p14 succ.length k14],Ch.own S2 order [.slice po order.length ko]]) m1 ⟨_,_,_,_,hF,rfl,h⟩ rfl ?_)
  rintro m2 e2 w7 ⟨X2,j,rs2,Se2,hF,rfl,h⟩
  rcases m2 with _|m2
  ·cases hF
  refine X0 5 rfl (qk rfl hF ?_ ?_)<;>intro hF
  ·refine X0 5 rfl ?_
   obtain ⟨next,hy5,hF,he5,b5,_,q5,cs7,hp5,hq5,rfl,hc5⟩:=(h.sl 2 rfl).1.ix hF
   refine zx hp5 hq5 ⟨he5.1,qI he5.2.1 (h.sl 2 rfl).2⟩ rfl (zc 0 hc5 rfl ?_)
   refine X0 6 rfl ?_
   obtain ⟨yr,hyr,hF⟩:=qe hF
   obtain ⟨b6,o6,q6,pr,kr,hp6,hq6,hlt6,hidr,hc6,hs6⟩:=h.matAt 0 1 rfl rfl hyr
   refine zx hp6 hq6 hlt6 rfl (zc 0 hc6 rfl ?_)
   obtain ⟨o3,hF,hK3⟩:=qe hF
   refine X0 3 rfl ?_
   refine ql (rL (fun m e w'=>∃ (X:List (List (List Int))) (s:Int) (rs:List (Raw (List (List Int)))) (Se:Nat→Prop),qbs list at_ next yr m X s=some o3∧idx X at_=some yr∧idx rs at_=some (hdr pr yr.length kr)∧e=[(0,.pointer (some ⟨b1,o_1,none⟩)),(1,.slice pl list.length kl),(8,.slice p12 X0_.length X0_.length),(10,.int .i64 at_),(12,.int .i64 next),(28,.slice po order.length ko),(29,.int .i64 order.length),(30,.int .i64 i),(63,.slice p14 succ.length k14),(64,.int .i64 succ.length),(65,.int .i64 j),(72,.slice pr yr.length kr),(73,.int .i64 yr.length),(74,.int .i64 s)]∧SH w w' [Ch.own Sr rs [.slice p12 X0_.length X0_.length],Ch.els Se X rs,Ch.own S5 succ [.slice p14 succ.length k14],Ch.own S2 order [.slice po order.length ko]]) m2 ⟨_,_,_,_,hF,hyr,hidr,rfl,h⟩ rfl ?_)
   rintro m3 e3 w8 ⟨X3,s,rs3,Se3,hF,hX3,hR3,rfl,h⟩
   rcases m3 with _|m3
   ·cases hF
   refine X0 5 rfl (qk rfl hF ?_ ?_)<;>intro hF
   ·refine X0 5 rfl ?_
    have hrow:=(qfz (h.elsR 1 rfl (qax hX3).2.2 (qax hR3).2.2)).1
    obtain ⟨tg,hy7,hF,he7,b7,_,q7,cs8,hp7,hq7,hr7,hc7⟩:=hrow.ix hF
    obtain ⟨pt,kt,rfl,st⟩:=hr7
    refine zxe hp7 hq7 he7 rfl (zc 0 hc7 rfl ?_)
    refine X0 2 rfl ?_
    obtain ⟨t2,ht2,hF⟩:=qe hF
    obtain ⟨z,hz,hF⟩:=qe hF
    obtain ⟨z2,hz2,hF⟩:=qe hF
    have hne:¬ at_.toNat=next.toNat:=fun e=>by rw [decide_eq_true e] at hF;cases hF
    rw [decide_eq_false hne,cond_false] at hF
    obtain ⟨b8,o8,q8,p15,k15,hp8,hq8,hlt8,hid8,hc8,hs8⟩:=h.matAt 0 1 rfl rfl hz
    refine rAB [12] [0] h rfl fun w9 hB9 h=>M0 463 [0,1,2,3,6,7,8] (h.pick [0] rfl) rfl ?_
    refine Aw 4 479 (fun w' _=>qlx (x:=.tmp 80) (i:=.tmp 81) (t:=88) qb hp8 hq8 hlt8 rfl rfl rfl rfl rfl rfl) (h.pick [0] rfl) rfl ?_
    refine Aw 5 511 (fun w' hw=>qfk (x:=.tmp 82) (t:=47) (j:=0) qb (qbo hw 0 rfl hid8 hp8 hq8 (qh0 (S:=fun _=>False) (w:=w'))) rfl rfl rfl) (h.pick [0] rfl) rfl ?_
    refine Ao 9 1023 rfl ?_
    refine qbZ t2 h (cB 103 rfl) (qmI ⟨_,_,rfl,(h.oldS sl)⟩ ⟨_,_,rfl,st.later hB9⟩ ht2) rfl rfl rfl rfl fun w10 S6 us hv hr=>?_
    obtain ⟨p16,k16,rfl,h⟩:=hv.lastL hr
    replace h:=h.pick [1,2,0,3,4] rfl
    obtain ⟨S7,S8,h⟩:=h.matTake hz hid8
    replace h:=h.pick [3,0,1,2,4,5] rfl
    refine Ag (h.pick [3] rfl) (Ao 10 2047 rfl ?_)
    refine qlt (cB 102 rfl) (qlb h hz2) rfl rfl rfl rfl fun w11 S9 p17 k17 h=>?_
    refine Ag (h.pick [2] rfl) ?_
    refine Aw 11 4095 (fun w' _=>qlx (x:=.tmp 78) (i:=.tmp 79) (t:=88) qb hp8 hq8 hlt8 rfl rfl rfl rfl rfl rfl) (h.pick [2] rfl) rfl ?_
    refine Ao 12 8191 rfl ?_
    refine qbE qb 2 0 (hdr p17 z2.length k17) h rfl hid8 hp8 hq8 qh0 (qbo h 2 rfl hid8 hp8 hq8 (qh0 (S:=fun _=>False) (w:=w11))) rfl rfl rfl qh0 rfl rfl rfl fun w12 h=>?_
    obtain ⟨S10,h⟩:=SH.matPut h
    refine qeh (fun hs=>absurd (hs 12 (by decide)) (by decide)) (Ad ?_)
    refine X0 5 rfl ?_
    exact rK ⟨_,_,_,_,hF,(qoW hne).trans hX3,(qoW hne).trans hR3,rfl,h⟩ rfl
   refine qp rfl ?_
   obtain rfl:=qc hF;replace hF:=hK3
   refine X0 5 rfl ?_
   exact rK ⟨_,_,_,_,hF,rfl,h⟩ rfl
  refine qp rfl ?_
  obtain rfl:=qc hF;replace hF:=hK2
  refine X0 5 rfl ?_
  replace h:=h.pick [0,1,3] rfl
  exact rK ⟨_,_,_,_,hF,rfl,h⟩ rfl
 refine qp rfl ?_
 obtain rfl:=qc hF;replace hF:=hK1
 refine X0 6 rfl ?_
 obtain rfl:=qc hF
 replace h:=h.joinL
 exact qar qb (ρ:=(List (List (List Int)) × Int)) [GoT.v (List (List (List Int))) [.slice p12 X0_.length X0_.length],GoT.v Int [.int .i64 0]] h ⟨rfl,rfl,trivial⟩ (PV.done h (qaC h (qC 0 h rfl) (qaD (qu (S:=fun _=>False) rfl)) (by rfl)))
end Go.Fw


namespace Go.Fw
open Go Go.Proofs
open Go.RowKit (Below)
set_option maxRecDepth 100000
set_option maxHeartbeats 6400000
variable {n:Nat} {w:World} {cs1 cs2 cs3:List Value}
def qdu (list:List qa) (starts:List Int):Nat→List (List (List Int))→Int→Option (List (List (List Int)) × Int)
 | 0,_,_=>none
 | n+1,X,i =>
  bif decide (i<(starts.length:Int)) then
   (idx starts i).bind fun place =>
   (qgz n list place).bind fun t =>
   (idx X place).bind fun _ =>
   qdu list starts n (setS X place [t]) (W64 (i+1))
  else some (X,i)
def qb0 (list:List qa) (place to:Int):Nat→List (List (List Int))→Int→Option (List (List (List Int)) × Int)
 | 0,_,_=>none
 | n+1,X,t =>
  (idx X place).bind fun y =>
  bif decide (t<(y.length:Int)) then
   (idx X to).bind fun z =>
   (idx y t).bind fun tg =>
   (qgf n list tg to).bind fun t2 =>
   (qiR n z t2).bind fun z2 =>
   qb0 list place to n (setS X to z2) (W64 (t+1))
  else some (X,t)
def qb2 (list:List qa) (place:Int) (next:List Int):Nat→List (List (List Int))→Int→Option (Flow (List (List (List Int)) × Bool) (List (List (List Int)) × Int))
 | 0,_,_=>none
 | n+1,X,i =>
  bif decide (i<(next.length:Int)) then
   (idx next i).bind fun to =>
   (qb0 list place to n X 0).bind fun o=>match o with
   | (X2,_) =>
    (idx X2 to).bind fun z =>
    bif decide ((z.length:Int) > 64) then some (.ret ([],false)) else
    qb2 list place next n X2 (W64 (i+1))
  else some (.nxt (X,i))
def qb1 (b:qd) (list:List qa) (order:List Int):Nat→List (List (List Int))→Int→Option (Flow (List (List (List Int)) × Bool) (List (List (List Int)) × Int))
 | 0,_,_=>none
 | n+1,X,k =>
  bif decide (k<(order.length:Int)) then
   (idx order k).bind fun place =>
   (qdN n b place).bind fun next =>
   (qb2 list place next n X 0).bind fun o=>match o with
   | .ret r=>some (.ret r)
   | .nxt (X2,_)=>qb1 b list order n X2 (W64 (k+1))
  else some (.nxt (X,k))
def qf8 (n:Nat) (b:qd) (list:List qa) (order:List Int):Option (List (List (List Int)) × Bool) :=
 (qab n b).bind fun m =>
 (mkS m ([]:List (List Int))).bind fun X =>
 (qe3 n b).bind fun starts =>
 (qdu list starts n X 0).bind fun o=>match o with
 | (X1,_) =>
  (qb1 b list order n X1 0).bind fun o=>match o with
  | .ret r=>some r
  | .nxt (X2,_)=>some (X2,true)
theorem qmD {b:qd} {list:List qa} {order:List Int} (ha1:GoT.R w (old w) b cs1) (ha2:GoT.R w (old w) list cs2) (ha3:GoT.R w (old w) order cs3) {r:List (List (List Int)) × Bool} (hF:qf8 n b list order=some r):RetV Tryz.prog 46 [GoT.v qd cs1,GoT.v (List qa) cs2,GoT.v (List Int) cs3] w r:=by
 obtain ⟨p1,k1,p2,k2,p3,k3,p4,k4,p5,k5,rfl,s1,s2,s3,s4,s5⟩:=qD ha1
 obtain ⟨pl,kl,rfl,sl⟩:=ha2
 obtain ⟨po,ko,rfl,so⟩:=ha3
 refine zV 97 Tryz.func46 rfl fun h=>zSR (qO h rfl rfl fun w1 bb1 h=>?_)
 have h:SH w w1 [Ch.box bb1 (qA b p1 p2 p3 p4 p5 k1 k2 k3 k4 k5) 34]:=h
 refine X1 6 0 h rfl ?_
 refine zcI h hF (qaK (h.old ha1)) rfl fun m w2 h hF=>?_
 obtain ⟨X0_,hx1,hF⟩:=qe hF
 obtain ⟨g1,g2,hx1⟩:=qfx hx1
 refine qgC qb (List (List Int)) h rfl rfl rfl rfl rfl rfl rfl rfl rfl g1 g2 hx1 rfl fun w3 S4 p12 h=>?_
 obtain ⟨Sr,Se,rs,hrs,h⟩:=h.splitL
 refine X1 5 2 h rfl ?_
 refine zcL h hF (qhh (h.old ha1)) rfl fun starts w4 S5 p14 k14 h hF=>?_
 replace h:=h.pick [1,2,0,3] rfl
 obtain ⟨o1,hF,hK1⟩:=qe hF
 refine X0 7 rfl ?_
 refine ql (rL (fun m e w'=>∃ (X:List (List (List Int))) (i:Int) (rs:List (Raw (List (List Int)))) (Se:Nat→Prop),qdu list starts m X i=some o1∧e=[(1,.slice pl list.length kl),(2,.slice po order.length ko),(3,.pointer (some ⟨bb1,0,none⟩)),(8,.slice p12 X0_.length X0_.length),(9,.slice p14 starts.length k14),(10,.int .i64 i)]∧SH w w' [Ch.own Sr rs [.slice p12 X0_.length X0_.length],Ch.els Se X rs,Ch.own S5 starts [.slice p14 starts.length k14],Ch.box bb1 (qA b p1 p2 p3 p4 p5 k1 k2 k3 k4 k5) 34]) n ⟨_,_,_,_,hF,rfl,h⟩ rfl ?_)
 rintro m1 e1 w5 ⟨X,i,rs,Se,hF,rfl,h⟩
 rcases m1 with _|m1
 ·cases hF
 refine X0 8 rfl (qk rfl hF ?_ ?_)<;>intro hF
 ·refine X0 7 rfl ?_
  obtain ⟨place,hy1,hF,he1,b2,_,q1,cs5,hp1,hq1,rfl,hc2⟩:=(h.sl 2 rfl).1.ix hF
  refine zx hp1 hq1 ⟨he1.1,qI he1.2.1 (h.sl 2 rfl).2⟩ rfl (zc 0 hc2 rfl ?_)
  refine X0 7 rfl (zcL h hF (qjo ⟨_,_,rfl,(h.oldS sl)⟩) rfl fun t w6 S6 p15 k15 h hF=>?_)
  obtain ⟨y0,hy0,hF⟩:=qe hF
  refine qsj qb h rfl rfl rfl rfl rfl rfl rfl rfl rfl fun w7 p16 S7 h=>?_
  obtain ⟨b3,o3,q3,p17,k17,hp3,hq3,hlt3,hid3,hc3,hs3⟩:=h.matAt 1 2 rfl rfl hy0
  replace h:=h.pick [1,2,0,3,4] rfl
  obtain ⟨S8,S9,h⟩:=h.matTake hy0 hid3
  replace h:=h.pick [3,1,2,4,5] rfl
  refine zx hp3 hq3 hlt3 rfl ?_
  refine qbE qb 2 0 (hdr p16 [t].length 1) h rfl hid3 hp3 hq3 qh0 (qbo h 2 rfl hid3 hp3 hq3 (qh0 (S:=fun _=>False) (w:=w7))) rfl rfl rfl qh0 rfl rfl rfl fun w8 h=>?_
  obtain ⟨S10,h⟩:=SH.matPut (y2:=[t]) h
  refine X0 7 rfl ?_
  exact rK ⟨_,_,_,_,hF,rfl,h⟩ rfl
 refine qp rfl ?_
 obtain rfl:=qc hF;replace hF:=hK1
 replace h:=h.pick [0,1,3] rfl
 obtain ⟨o2,hF,hK2⟩:=qe hF
 refine X0 5 rfl ?_
 refine ql (rL (fun m e w'=>∃ (X:List (List (List Int))) (k:Int) (rs:List (Raw (List (List Int)))) (Se:Nat→Prop),qb1 b list order m X k=some o2∧e=[(1,.slice pl list.length kl),(2,.slice po order.length ko),(3,.pointer (some ⟨bb1,0,none⟩)),(8,.slice p12 X0_.length X0_.length),(12,.int .i64 k)]∧SH w w' [Ch.own Sr rs [.slice p12 X0_.length X0_.length],Ch.els Se X rs,Ch.box bb1 (qA b p1 p2 p3 p4 p5 k1 k2 k3 k4 k5) 34]) n ⟨_,_,_,_,hF,rfl,h⟩ rfl ?_)
 rintro m2 e2 w9 ⟨X2,k,rs2,Se2,hF,rfl,h⟩
 rcases m2 with _|m2
 ·cases hF
 refine X0 8 rfl (qk rfl hF ?_ ?_)<;>intro hF
 ·refine X0 7 rfl ?_
  obtain ⟨place,hy1,hF,he1,b2,_,q1,cs5,hp1,hq1,rfl,hc2⟩:=so.ix hF
  refine zxe hp1 hq1 he1 rfl (zc 0 (hc2.below h.below) rfl ?_)
  refine X1 6 2 h rfl ?_
  refine zcL h hF (qe0 (h.old ha1)) rfl fun next w10 S11 p18 k18 h hF=>?_
  replace h:=h.pick [1,2,0,3] rfl
  obtain ⟨o3,hF,hK3⟩:=qe hF
  refine X0 6 rfl ?_
  refine ql (rL (fun m e w'=>∃ (X:List (List (List Int))) (i:Int) (rs:List (Raw (List (List Int)))) (Se:Nat→Prop),qb2 list place next m X i=some o3∧e=[(1,.slice pl list.length kl),(2,.slice po order.length ko),(3,.pointer (some ⟨bb1,0,none⟩)),(8,.slice p12 X0_.length X0_.length),(12,.int .i64 k),(13,.int .i64 place),(14,.slice p18 next.length k18),(15,.int .i64 i)]∧SH w w' [Ch.own Sr rs [.slice p12 X0_.length X0_.length],Ch.els Se X rs,Ch.own S11 next [.slice p18 next.length k18],Ch.box bb1 (qA b p1 p2 p3 p4 p5 k1 k2 k3 k4 k5) 34]) m2 ⟨_,_,_,_,hF,rfl,h⟩ rfl ?_)
  rintro m3 e3 w11 ⟨X3,i3,rs3,Se3,hF,rfl,h⟩
  rcases m3 with _|m3
  ·cases hF
  refine X0 8 rfl (qk rfl hF ?_ ?_)<;>intro hF
  ·refine X0 7 rfl ?_
   obtain ⟨to,hy5,hF,he5,b5,_,q5,cs7,hp5,hq5,rfl,hc5⟩:=(h.sl 2 rfl).1.ix hF
   refine zx hp5 hq5 ⟨he5.1,qI he5.2.1 (h.sl 2 rfl).2⟩ rfl (zc 0 hc5 rfl ?_)
   obtain ⟨o4,hF,hK4⟩:=qe hF
   refine X0 7 rfl ?_
   refine ql (rL (fun m e w'=>∃ (X:List (List (List Int))) (t:Int) (rs:List (Raw (List (List Int)))) (Se:Nat→Prop),qb0 list place to m X t=some o4∧e=[(1,.slice pl list.length kl),(2,.slice po order.length ko),(3,.pointer (some ⟨bb1,0,none⟩)),(8,.slice p12 X0_.length X0_.length),(12,.int .i64 k),(13,.int .i64 place),(14,.slice p18 next.length k18),(15,.int .i64 i3),(16,.int .i64 to),(17,.int .i64 t)]∧SH w w' [Ch.own Sr rs [.slice p12 X0_.length X0_.length],Ch.els Se X rs,Ch.own S11 next [.slice p18 next.length k18],Ch.box bb1 (qA b p1 p2 p3 p4 p5 k1 k2 k3 k4 k5) 34]) m3 ⟨_,_,_,_,hF,rfl,h⟩ rfl ?_)
   rintro m4 e4 w12 ⟨X4,t4,rs4,Se4,hF,rfl,h⟩
   rcases m4 with _|m4
   ·cases hF
   refine X0 6 rfl ?_
   obtain ⟨y,hy,hF⟩:=qe hF
   obtain ⟨b6,o6,q6,py,ky,hp6,hq6,hlt6,hid6,hc6,hs6⟩:=h.matAt 0 1 rfl rfl hy
   refine zx hp6 hq6 hlt6 rfl (zc 0 hc6 rfl ?_)
   refine X0 3 rfl (qk rfl hF ?_ ?_)<;>intro hF
   ·refine X0 3 rfl ?_
    obtain ⟨z,hz,hF⟩:=qe hF
    obtain ⟨tg,htg,hF⟩:=qe hF
    obtain ⟨t2,ht2,hF⟩:=qe hF
    obtain ⟨z2,hz2,hF⟩:=qe hF
    obtain ⟨b8,o8,q8,p15,k15,hp8,hq8,hlt8,hid8,hc8,hs8⟩:=h.matAt 0 1 rfl rfl hz
    refine rA [18] [0] h rfl fun w13 h=>?_
    have hrow:=(qfz (h.elsR 1 rfl (qax hy).2.2 (qax hid6).2.2)).1
    obtain ⟨b9,o9,q9,cs8,hp9,hq9,_,hr9,hc9⟩:=hrow.at htg
    have he9:=qax htg
    obtain ⟨pt,kt,rfl,st⟩:=hr9
    refine M0 18895 [0,1,2,3,6,7,8,11,14] (h.pick [0] rfl) rfl ?_
    refine Aw 4 18911 (fun w' _=>qlx (x:=.tmp 74) (i:=.tmp 75) (t:=88) qb hp8 hq8 hlt8 rfl rfl rfl rfl rfl rfl) (h.pick [0] rfl) rfl ?_
    refine Aw 5 18943 (fun w' hw=>qfk (x:=.tmp 76) (t:=47) (j:=0) qb (qbo hw 0 rfl hid8 hp8 hq8 (qh0 (S:=fun _=>False) (w:=w'))) rfl rfl rfl) (h.pick [0] rfl) rfl ?_
    refine Aw 9 19455 (fun w' _=>qlx (x:=.tmp 79) (i:=.tmp 80) (t:=88) qb hp6 hq6 hlt6 rfl rfl rfl rfl rfl rfl) (h.pick [0] rfl) rfl ?_
    refine Aw 10 20479 (fun w' hw=>qfk (x:=.tmp 81) (t:=47) (j:=0) qb (qbo hw 0 rfl hid6 hp6 hq6 (qh0 (S:=fun _=>False) (w:=w'))) rfl rfl rfl) (h.pick [0] rfl) rfl ?_
    refine Aw 12 24575 (fun w' _=>qlx (x:=.tmp 82) (i:=.tmp 83) (t:=47) qb hp9 hq9 ⟨he9.1,he9.2.1⟩ rfl rfl rfl rfl rfl rfl) (h.pick [0] rfl) rfl ?_
    refine Ao 13 32767 rfl (zc 0 hc9 rfl ?_)
    refine Ag (h.pick [0] rfl) (Ao 15 65535 rfl ?_)
    refine qbZ t2 h (cB 37 rfl) (qh8 ⟨_,_,rfl,(h.oldS sl)⟩ ⟨_,_,rfl,st⟩ ht2) rfl rfl rfl rfl fun w14 S12 us hv hr=>?_
    obtain ⟨p16,k16,rfl,h⟩:=hv.lastL hr
    replace h:=h.pick [1,2,0,3,4] rfl
    obtain ⟨S13,S14,h⟩:=h.matTake hz hid8
    replace h:=h.pick [3,0,1,2,4,5] rfl
    refine Ag (h.pick [3] rfl) (Ao 16 131071 rfl ?_)
    refine qlt (cB 104 rfl) (qnJ h hz2) rfl rfl rfl rfl fun w15 S15 p17 k17 h=>?_
    refine Ag (h.pick [2] rfl) ?_
    refine Aw 17 262143 (fun w' _=>qlx (x:=.tmp 72) (i:=.tmp 73) (t:=88) qb hp8 hq8 hlt8 rfl rfl rfl rfl rfl rfl) (h.pick [2] rfl) rfl ?_
    refine Ao 18 524287 rfl ?_
    refine qbE qb 2 0 (hdr p17 z2.length k17) h rfl hid8 hp8 hq8 qh0 (qbo h 2 rfl hid8 hp8 hq8 (qh0 (S:=fun _=>False) (w:=w15))) rfl rfl rfl qh0 rfl rfl rfl fun w16 h=>?_
    obtain ⟨S16,h⟩:=SH.matPut h
    refine qeh (fun hs=>absurd (hs 18 (by decide)) (by decide)) (Ad ?_)
    refine X0 6 rfl ?_
    exact rK ⟨_,_,_,_,hF,rfl,h⟩ rfl
   refine qp rfl ?_
   obtain rfl:=qc hF;replace hF:=hK4
   refine X0 4 rfl ?_
   obtain ⟨z,hz,hF⟩:=qe hF
   obtain ⟨b7,o7,q7,pz,kz,hp7,hq7,hlt7,hid7,hc7,hs7⟩:=h.matAt 0 1 rfl rfl hz
   refine zx hp7 hq7 hlt7 rfl (zc 0 hc7 rfl ?_)
   refine X0 3 rfl (qk rfl hF ?_ ?_)<;>intro hF
   ·refine X0 5 rfl ?_
    obtain rfl:=qc hF;replace hF:=hK3
    obtain rfl:=qc hF;replace hF:=hK2
    obtain rfl:=qc hF
    exact qar qb (ρ:=(List (List (List Int)) × Bool)) [GoT.v (List (List (List Int))) [.slice none 0 0],GoT.v Bool [.bool false]] h ⟨rfl,rfl,trivial⟩ (PV.done h (qaC h qeO (qaD (qu (S:=fun _=>False) rfl)) (by rfl)))
   refine X0 7 rfl ?_
   exact rK ⟨_,_,_,_,hF,rfl,h⟩ rfl
  refine qp rfl ?_
  obtain rfl:=qc hF;replace hF:=hK3
  refine X0 6 rfl ?_
  replace h:=h.pick [0,1,3] rfl
  exact rK ⟨_,_,_,_,hF,rfl,h⟩ rfl
 refine qp rfl ?_
 obtain rfl:=qc hF;replace hF:=hK2
 refine X0 6 rfl ?_
 obtain rfl:=qc hF
 replace h:=h.joinL
 exact qar qb (ρ:=(List (List (List Int)) × Bool)) [GoT.v (List (List (List Int))) [.slice p12 X0_.length X0_.length],GoT.v Bool [.bool true]] h ⟨rfl,rfl,trivial⟩ (PV.done h (qaC h (qC 0 h rfl) (qaD (qu (S:=fun _=>False) rfl)) (by rfl)))
end Go.Fw


namespace Go.Fw
open Go Go.Proofs
open Go.RowKit (Below)
set_option maxRecDepth 100000
set_option maxHeartbeats 6400000
variable {n:Nat} {w:World} {cs1 cs2 cs3 cs4 cs5 cs6 cs7 cs8 cs9:List Value}
def qgT (n:Nat) (b:qd) (list:(List qa)) (place:Int):Option ((List (List Int)) × Int) :=
 (qg2 n b list place).bind fun o=>match o with
  | (r2,r3) =>
   bif (r3 != 0) then some ([],r3) else
   (qe8 n r2 list).bind fun o=>match o with
    | (r5,r6) =>
     bif (r6 != 0) then some ([],r6) else
     (idx r5 place).bind fun y1 =>
     some (y1,0)
theorem qka {b:qd} {list:(List qa)} {place:Int} (ha1:GoT.R w (old w) b cs1) (ha2:GoT.R w (old w) list cs2) {r:((List (List Int)) × Int)} (hF:qgT n b list place=some r):RetV Tryz.prog 13 [GoT.v qd cs1,GoT.v (List qa) cs2,.int .i64 place] w r:=by
 obtain ⟨p1,k1,p2,k2,p3,k3,p4,k4,p5,k5,rfl,s1,s2,s3,s4,s5⟩:=qD ha1
 obtain ⟨p6,k6,rfl,s6⟩:=ha2
 refine zV 34 Tryz.func13 rfl fun h=>zSR (qO h rfl rfl fun w1 bb1 h=>X1 8 0 h rfl ?_)
 have hg1:Rg (old w) w (old w) w:=.start (fun _ h=>h)
 obtain ⟨r1,hr1,hF⟩:=qe hF
 obtain ⟨r2,r3⟩:=r1
 refine qkO (r2,r3) hg1 h (cB 38 rfl) (qjZ (hg1.regOld h) (hg1.inR h ha1) ⟨_,_,rfl,(hg1.inS h s6)⟩ hr1) rfl rfl rfl rfl fun w2 us1 B1 hg2 hu1 hz1 hv1=>?_
 have hL1:=h.ext hu1.below
 have s7:=Up.S hg1 h hu1 s6
 have hb1:=h.below.trans (hu1.below.mono h.below.size)
 replace h:=hz1
 obtain ⟨cs3,us2,rfl,hr2,hv2⟩:=qev hv1
 obtain ⟨p7,rfl,s8⟩:=qda hr2
 obtain ⟨cs4,rfl,hr3⟩:=qgt hv2
 obtain rfl:=hr3
 refine X0 12 rfl (qk rfl hF ?_ ?_)<;>intro hF
 ·refine X0 6 rfl ?_
  replace h:=h.unbase hg2.below (show NoD [] from trivial)
  obtain rfl:=qc hF
  exact qar qb (ρ:=((List (List Int)) × Int)) [GoT.v (List (List Int)) [.slice none 0 0],GoT.v Int [.int .i64 r3]] h ⟨rfl,rfl,trivial⟩ (PV.done h (qaC h qeO (qaD (qu (S:=fun _=>False) rfl)) (by rfl)))
 refine X0 5 rfl ?_
 obtain ⟨r4,hr4,hF⟩:=qe hF
 obtain ⟨r5,r6⟩:=r4
 refine qbZ (r5,r6) h (cB 43 rfl) (qk5 (h.old (GoT.mono s8 hg2.old)) ⟨_,_,rfl,(h.oldS (s7.mono hg2.old))⟩ hr4) rfl rfl rfl rfl fun w3 S1 us3 hv3 hr5=>?_
 obtain ⟨S2,S3,p8,k7,us4,rfl,hv4,hr6⟩:=hv3.consL hr5
 obtain ⟨rfl,h⟩:=hv4.lastI hr6
 refine X0 12 rfl (qk rfl hF ?_ ?_)<;>intro hF
 ·refine X0 6 rfl ?_
  replace h:=h.unbase hg2.below ⟨fun _ h=>h,trivial⟩
  obtain rfl:=qc hF
  exact qar qb (ρ:=((List (List Int)) × Int)) [GoT.v (List (List Int)) [.slice none 0 0],GoT.v Int [.int .i64 r6]] h ⟨rfl,rfl,trivial⟩ (PV.done h (qaC h qeO (qaD (qu (S:=fun _=>False) rfl)) (by rfl)))
 refine X0 5 rfl ?_
 obtain ⟨y1,hy1,hF⟩:=qe hF
 have he1:=qax hy1
 obtain ⟨S5,S6,cs5,h⟩:=h.take hy1
 obtain ⟨p9,k8,rfl,-⟩:=h.own 0 rfl
 obtain ⟨b1,hp1,-,-,hl2⟩:=h.holeAt 1 rfl
 obtain ⟨q1,hq1⟩:∃ q,q=0+(place).toNat*GoT.k (List (List Int)):=⟨_,rfl⟩
 refine zx hp1 hq1 ⟨he1.1,qI he1.2.1 hl2⟩ rfl (zc 0 (qfr h 1 rfl hp1 hq1) rfl (X0 3 rfl ?_))
 replace h:=h.pick [0] rfl
 replace h:=h.unbase hg2.below ⟨fun _ h=>h,trivial⟩
 obtain rfl:=qc hF
 exact qar qb (ρ:=((List (List Int)) × Int)) [GoT.v (List (List Int)) [.slice p9 y1.length k8],GoT.v Int [.int .i64 0]] h ⟨rfl,rfl,trivial⟩ (PV.done h (qaC h (qC 0 h rfl) (qaD (qu (S:=fun _=>False) rfl)) (by rfl)))
def qhT (n:Nat) (b:qd) (list:(List qa)) (place:Int):Option ((List (List Int)) × Int) :=
 (qik n b list place).bind fun r1 =>
 bif (r1 != 0) then some ([],r1) else
 (qhF n b).bind fun o=>match o with
  | (r3,r4) =>
   bif (!r4) then some ([],7) else
   (qf8 n b list r3).bind fun o=>match o with
    | (r6,r7) =>
     bif (!r7) then some ([],3) else
     (idx r6 place).bind fun y1 =>
     some (y1,0)
theorem qnr {b:qd} {list:(List qa)} {place:Int} (ha1:GoT.R w (old w) b cs1) (ha2:GoT.R w (old w) list cs2) {r:((List (List Int)) × Int)} (hF:qhT n b list place=some r):RetV Tryz.prog 14 [GoT.v qd cs1,GoT.v (List qa) cs2,.int .i64 place] w r:=by
 obtain ⟨p1,k1,p2,k2,p3,k3,p4,k4,p5,k5,rfl,s1,s2,s3,s4,s5⟩:=qD ha1
 obtain ⟨p6,k6,rfl,s6⟩:=ha2
 refine zV 40 Tryz.func14 rfl fun h=>zSR (qO h rfl rfl fun w1 bb1 h=>X1 8 0 h rfl (zcI h hF (qmE (h.old ha1) ⟨_,_,rfl,(h.oldS s6)⟩) rfl fun r1 w2 h hF=>X0 8 rfl (qk rfl hF ?_ ?_)))<;>intro hF
 ·refine X0 6 rfl ?_
  obtain rfl:=qc hF
  exact qar qb (ρ:=((List (List Int)) × Int)) [GoT.v (List (List Int)) [.slice none 0 0],GoT.v Int [.int .i64 r1]] h ⟨rfl,rfl,trivial⟩ (PV.done h (qaC h qeO (qaD (qu (S:=fun _=>False) rfl)) (by rfl)))
 refine X1 4 0 h rfl ?_
 obtain ⟨r2,hr2,hF⟩:=qe hF
 obtain ⟨r3,r4⟩:=r2
 refine qbZ (r3,r4) h (cB 45 rfl) (qmj (h.old ha1) hr2) rfl rfl rfl rfl fun w3 S1 us1 hv1 hr3=>?_
 obtain ⟨S2,S3,p7,k7,us2,rfl,hv2,hr4⟩:=hv1.consL hr3
 obtain ⟨rfl,h⟩:=hv2.lastB hr4
 refine X0 12 rfl (qk rfl hF ?_ ?_)<;>intro hF
 ·refine X0 5 rfl ?_
  obtain rfl:=qc hF
  exact qar qb (ρ:=((List (List Int)) × Int)) [GoT.v (List (List Int)) [.slice none 0 0],GoT.v Int [.int .i64 7]] h ⟨rfl,rfl,trivial⟩ (PV.done h (qaC h qeO (qaD (qu (S:=fun _=>False) rfl)) (by rfl)))
 refine X1 6 1 h rfl ?_
 obtain ⟨r5,hr6,hF⟩:=qe hF
 obtain ⟨r6,r7⟩:=r5
 refine qbZ (r6,r7) h (cB 46 rfl) (qmD (h.old ha1) ⟨_,_,rfl,(h.oldS s6)⟩ (h.own 0 rfl) hr6) rfl rfl rfl rfl fun w4 S5 us3 hv4 hr7=>?_
 obtain ⟨S6,S7,p8,k8,us4,rfl,hv5,hr8⟩:=hv4.consL hr7
 obtain ⟨rfl,h⟩:=hv5.lastB hr8
 refine X0 12 rfl (qk rfl hF ?_ ?_)<;>intro hF
 ·refine X0 5 rfl ?_
  obtain rfl:=qc hF
  exact qar qb (ρ:=((List (List Int)) × Int)) [GoT.v (List (List Int)) [.slice none 0 0],GoT.v Int [.int .i64 3]] h ⟨rfl,rfl,trivial⟩ (PV.done h (qaC h qeO (qaD (qu (S:=fun _=>False) rfl)) (by rfl)))
 refine X0 5 rfl ?_
 obtain ⟨y1,hy1,hF⟩:=qe hF
 have he1:=qax hy1
 obtain ⟨S9,S10,cs3,h⟩:=h.take hy1
 obtain ⟨p9,k9,rfl,-⟩:=h.own 0 rfl
 obtain ⟨b1,hp1,-,-,hl2⟩:=h.holeAt 1 rfl
 obtain ⟨q1,hq1⟩:∃ q,q=0+(place).toNat*GoT.k (List (List Int)):=⟨_,rfl⟩
 refine zx hp1 hq1 ⟨he1.1,qI he1.2.1 hl2⟩ rfl (zc 0 (qfr h 1 rfl hp1 hq1) rfl (X0 3 rfl ?_))
 replace h:=h.pick [0,2,3] rfl
 obtain rfl:=qc hF
 exact qar qb (ρ:=((List (List Int)) × Int)) [GoT.v (List (List Int)) [.slice p9 y1.length k9],GoT.v Int [.int .i64 0]] h ⟨rfl,rfl,trivial⟩ (PV.done h (qaC h (qC 0 h rfl) (qaD (qu (S:=fun _=>False) rfl)) (by rfl)))
end Go.Fw


namespace Go.Fw
open Go
open Go.RowKit (Below)
section
variable {w0 w:World} {L:List Ch} {α:Type} [GoT α] {S Sr Se D:Nat→Prop} {xs ys:List α} {p p':Option Addr} {c c':Nat} {fs:List Fct}
end
end Go.Fw


namespace Go.Fw
open Go
open Go.RowKit (Below)
section
variable {P:Program} {T:Tab} {n:Nat} {Q:Exit→Act→World→Prop} {k:List It} {e:Env} {w0 w w':World} {L:List Ch}
theorem qt1 {all:Array Oper} {o:Oper} {l:List Oper} {v:Value} (hg:o.guard=none) (hd:o.dst=none)
  (h:∀ a,Agree n e a→(execOp a.eval o).run P w=.ok (.value v) w') (hk:Run P n Q (.ops all l::k) e w'):Run P n Q (.ops all (o::l)::k) e w:=by
 intro a ha
 show wpList P all (post P Q k) (o::l) a w
 have hw:Region.wanted o (yielded all a.tmps)=true:=by simp [Region.wanted,hg]
 rw [wpList,if_pos hw]
 refine .inl ?_
 unfold Oper.wp
 rw [h a ha,Oper.upon_value,hd]
 exact hk _ ha
theorem qrJ (hT:TabOk P T) {all:Array Oper} {l:List Oper} {tt ty el b o ld cd tb:Nat} {ps:String} {af:Array Edge} {x:Operand} {te te':TE} {cs:List Value} {zv:Value} (m:Nat)
  (h:SH w0 w L) (hi:L[m]?=some (Ch.box b cs tb)) (hx:opv e x=some (.slice (some ⟨b,o,none⟩) ld cd))
  (hte:T.get tt=some te) (hk:te.kind=.slice el) (hel:T.get el=some te') (hz:te'.zero=some zv) (hzc:zv.cells=#[zv]) (hz1:zv.oneCell'=true) (hpos:0<ld) (hfit:o+ld≤cs.length)
  (hkk:∀ w',SH w0 w' (L.set m (Ch.box b (splice cs o (List.replicate ld zv)) tb))→Run P n Q (.ops all l::k) e w') :
  Run P n Q (.ops all (⟨none,.call ⟨.builtin .clear,#[x],#[tt]⟩,ty,ps,af,none⟩::l)::k) e w:=by
 obtain ⟨inf,hinf,hs1,_,hzi⟩:=qd7 (hT _ _ hel)
 have hu:=qbR (hT _ _ hte) hk
 have hg:w.heap[b]?=some (.cells cs.toArray tb (0,0)):=(h.mem hi).1
 have hcell:∀ j,j<ld→(w.cell? ⟨b,o+j,none⟩).isSome=true:=fun j hj=>by
  simp only [World.cell?,hg,Option.isSome_none,Bool.false_eq_true,if_false]
  rw [jI,ji (by omega)]
  rfl
 have hfz:∀ j,j<ld→w.frozen? ⟨b,o+j,none⟩=false:=fun j _=>by
  simp only [World.frozen?,hg]
  simp
 have hzz:∀ w,(zeroValue el).run P w=.ok zv w:=fun w=>by
  simp only [zeroValue,jl,typeInfo,run_program]
  simp [hinf,hzi,hz]
 have hr:=Lib.run_clear_slice (P:=P) w tt el ty zv hu hzz hzc hz1 b o ld cd hpos hcell hfz
 have hln:(List.replicate ld zv).length=ld:=by simp
 obtain ⟨r1,r2,r3,r4⟩:=qi7 b (List.replicate ld zv) o w
 have hup:=hkk _ (h.upd hi r1 r2 r3 (by rw [r4];exact jf _) (fun a _ ha=>qi5 (fun hab=>ha hab) _ o w) (qjS b tb (0,0) (List.replicate ld zv) o w cs hg (by rw [hln];exact hfit)) (fun a ha=>.inl ha) (fun _ hd=>hd.elim))
 refine qt1 (v:=.tuple #[]) (w':=w.setCells b o (List.replicate ld zv)) rfl rfl (fun a ha=>?_) hup
 simp only [execOp,resolve,invoke,builtin,jl,jn,jh,List.map_toArray,Jb,List.map_nil,ha.eval hx,hr]
section
variable {α:Type} [GoT α] {S:Nat→Prop}
theorem qsM {w:World}:∀ {ys xs:List (α × Raw α)},ys.Sublist xs→∀ {S:Nat→Prop},(∃ F:Nat→Nat→Prop,(∀ i a,F i a→S a)∧(∀ i j a,i ≠ j→F i a→¬ F j a)∧∀ i z,xs[i]?=some z→GoT.O w (F i) z.1 z.2.cs) →
  ∃ F:Nat→Nat→Prop,(∀ i a,F i a→S a)∧(∀ i j a,i ≠ j→F i a→¬ F j a)∧∀ i z,ys[i]?=some z→GoT.O w (F i) z.1 z.2.cs:=by
 intro ys xs hs
 induction hs with
 | slnil=>exact fun h=>h
 | cons z _ ih =>
  rintro S ⟨F,f1,f2,f3⟩
  exact ih ⟨fun i=>F (i+1),fun i a ha=>f1 _ a ha,fun i j a hne ha hb=>f2 _ _ a (by omega) ha hb,fun i z hz=>f3 (i+1) z (by simpa using hz)⟩
 | cons_cons z _ ih =>
  rintro S ⟨F,f1,f2,f3⟩
  obtain ⟨G,g1,g2,g3⟩:=ih (S:=fun a=>∃ i,F (i+1) a) ⟨fun i=>F (i+1),fun i a ha=>⟨i,ha⟩,fun i j a hne ha hb=>f2 _ _ a (by omega) ha hb,fun i z hz=>f3 (i+1) z (by simpa using hz)⟩
  refine ⟨fun i=>match i with|0=>F 0|i+1=>G i,fun i a ha=>?_,fun i j a hne ha hb=>?_,fun i y hy=>?_⟩
  ·cases i with
   | zero=>exact f1 0 a ha
   | succ i=>obtain ⟨m,hm⟩:=g1 i a ha;exact f1 _ a hm
  ·cases i with
   | zero =>
    cases j with
    | zero=>exact hne rfl
    | succ j=>obtain ⟨m,hm⟩:=g1 j a hb;exact f2 0 (m+1) a (by omega) ha hm
   | succ i =>
    cases j with
    | zero=>obtain ⟨m,hm⟩:=g1 i a ha;exact f2 (m+1) 0 a (by omega) hm hb
    | succ j=>exact g2 i j a (by omega) ha hb
  ·cases i with
   | zero =>
    obtain rfl:z=y:=by simpa using hy
    exact f3 0 z rfl
   | succ i=>exact g3 i y (by simpa using hy)
theorem SH.elsSub {xs:List α} {rs:List (Raw α)} {K:List (α × Raw α)} (hs:K.Sublist (xs.zip rs)) (h:SH w0 w (Ch.els S xs rs::L)):SH w0 w (Ch.els S (K.map (·.1)) (K.map (·.2))::L):=by
 refine h.say (i:=0) (c':=Ch.els S (K.map (·.1)) (K.map (·.2))) rfl (fun hp=>?_) (fun a ha=>ha) (fun _ hd=>hd.elim)
 obtain ⟨hl,F,f1,f2,f3⟩:=hp
 obtain ⟨G,g1,g2,g3⟩:=qsM hs (S:=S) ⟨F,f1,f2,fun i z hz=>by
  rw [List.getElem?_zip_eq_some] at hz
  exact f3 i z.1 z.2 hz.1 hz.2⟩
 refine ⟨by simp,G,g1,g2,fun i x r hx hr=>?_⟩
 rw [List.getElem?_map] at hx hr
 cases hK:K[i]? with
 | none=>rw [hK] at hx;cases hx
 | some z =>
  rw [hK] at hx hr
  obtain rfl:=Option.some.inj hx
  obtain rfl:=Option.some.inj hr
  exact g3 i z hK
end
def kept {α β:Type} (q:α→Bool) (xs:List α) (rs:List β) (j:Nat):List (α × β):=((xs.zip rs).take j).filter fun z=>q z.1
theorem qrO {α β:Type} (q:α→Bool) (xs:List α) (rs:List β) (j:Nat):(kept q xs rs j).Sublist (xs.zip rs):=(List.filter_sublist ..).trans (List.take_sublist ..)
theorem qod {α β:Type} {q:α→Bool} {xs:List α} {rs:List β} {j:Nat} {x:α} {r:β} (hx:xs[j]?=some x) (hr:rs[j]?=some r):kept q xs rs (j+1)=kept q xs rs j++bif q x then [(x,r)] else []:=by
 have hz:(xs.zip rs)[j]?=some (x,r):=by rw [List.getElem?_zip_eq_some];exact ⟨hx,hr⟩
 unfold kept
 rw [List.take_add_one,hz,List.filter_append]
 cases hq:q x<;>simp [hq]
theorem qrV {α β:Type} {q:α→Bool} {xs:List α} {rs:List β} (hl:xs.length=rs.length):(kept q xs rs xs.length).map (·.1)=xs.filter q:=by
 unfold kept
 rw [List.take_of_length_le (by simp [List.length_zip];omega)]
 have h1:(xs.zip rs).map (·.1)=xs:=List.map_fst_zip (by omega)
 have h2:=List.filter_map (p:=q) (f:=fun z:α × β=>z.1) (l:=xs.zip rs)
 rw [h1] at h2
 exact h2.symm
theorem qqe {α β:Type} {q:α→Bool} {xs:List α} {rs:List β} {j:Nat} (hl:xs.length=rs.length) (hj:j≤xs.length) (h:∀ i x,i<j→xs[i]?=some x→q x=true):kept q xs rs j=(xs.zip rs).take j:=by
 unfold kept
 refine List.filter_eq_self.2 fun z hz=>?_
 obtain ⟨i,hi⟩:=List.mem_iff_getElem?.1 hz
 rw [jt] at hi
 split at hi
 ·rw [List.getElem?_zip_eq_some] at hi
  exact h i z.1 (by assumption) hi.1
 ·cases hi
end
end Go.Fw


namespace Go.Fw
open Go Go.Proofs
open Go.RowKit (Below)
set_option maxRecDepth 100000
set_option maxHeartbeats 6400000
def fltP (f:List Int→Option qW) (t:List Int):Bool:=((f t).map (·.Bm)).getD false
def fltF (f:List Int→Option qW):List (List Int)→Option (List (List Int))
 | []=>some []
 | t::r=>(f t).bind fun e=>(fltF f r).bind fun q=>some (bif e.Bm then q else t::q)
theorem qoe {f:List Int→Option qW}:∀ {xs r:List (List Int)},fltF f xs=some r→(∀ t ∈ xs,∃ e,f t=some e∧e.Bm=fltP f t)∧xs.filter (fun t=>!fltP f t)=r
 | [],r,h=>⟨fun _ ht=>by (cases ht),Option.some.inj h⟩
 | t::xs,r,h=>by
  obtain ⟨e,he,h⟩:=qe h
  obtain ⟨q,hq,h⟩:=qe h
  obtain ⟨h1,h2⟩:=qoe hq
  have hE:e.Bm=fltP f t:=by unfold fltP;rw [he];rfl
  refine ⟨fun u hu=>?_,?_⟩
  ·rcases List.mem_cons.1 hu with rfl|hu
   ·exact ⟨e,he,hE⟩
   ·exact h1 u hu
  ·rw [hE] at h
   obtain rfl:=Option.some.inj h
   rw [List.filter_cons,h2]
   cases fltP f t<;>rfl
theorem idxN {α:Type} {xs:List α} {i:Nat} (h:i<xs.length):idx xs (i:Int)=some xs[i]:=by
 unfold idx
 rw [if_pos (by omega)]
 exact ji h
theorem w64N (i:Nat) (h:i≤1000000):W64 ((i:Int)+1)=((i+1:Nat):Int):=by
 rw [qaz (by omega) (by omega)];omega
theorem qlq {n:Nat} {w:World} {list:List qa} {t:List Int} {place:Int} {bl bp:Nat} {cs1 cs2:List Value} (ha1:GoT.R w (old w) list cs1) (ha2:GoT.R w (old w) t cs2)
  (hl:CellsAt w bl 0 cs1) (hp:CellsAt w bp 0 [.int .i64 place]) {r:qW} (hF:qck n list t place=some r) {b:Bool} (hb:r.Bm=b) :
  RetV Tryz.prog 48 (GoT.v (List Int) cs2::[.pointer (some ⟨bl,0,none⟩),.pointer (some ⟨bp,0,none⟩)]) w b:=by
 subst hb
 obtain ⟨p1,k1,rfl,s1⟩:=ha1
 obtain ⟨p2,k2,rfl,s2⟩:=ha2
 refine zV 10 Tryz.func48 rfl fun h=>X0 6 rfl ?_
 refine r_v (qfk (j:=0) qb hl rfl rfl rfl) rfl ?_
 refine X0 1 rfl ?_
 refine r_v (qfk (j:=0) qb hp rfl rfl rfl) rfl ?_
 refine qbZ r h (cB 40 rfl) (qhx ⟨_,_,rfl,s1⟩ ⟨_,_,rfl,s2⟩ hF) rfl rfl rfl rfl fun w1 S1 us1 hv1 hr1=>?_
 obtain ⟨cs,rfl,h⟩:=hv1.last hr1
 obtain rfl:=qeB (h.own 0 rfl)
 refine X0 3 rfl ?_
 exact rb h rfl rfl
def ixN (q:List Int→Bool) (xs:List (List Int)):Int:=bif decide (xs.findIdx q<xs.length) then (xs.findIdx q:Int) else -1
theorem qtN {n:Nat} {w:World} {list:List qa} {place:Int} {xs:List (List Int)} {q:List Int→Bool} {bl bp:Nat} {cs1 csl:List Value} (ha1:GoT.R w (old w) xs cs1) (ha2:GoT.R w (old w) list csl)
  (hbl:CellsAt w bl 0 csl) (hbp:CellsAt w bp 0 [.int .i64 place]) (hE:∀ t ∈ xs,∃ e,qck n list t place=some e∧e.Bm=q t) (hbig:xs.length≤1000000) :
  RetV Tryz.prog 105 [GoT.v (List (List Int)) cs1,.func (.func 48) #[] #[.pointer (some ⟨bl,0,none⟩),.pointer (some ⟨bp,0,none⟩)]] w (ixN q xs):=by
 obtain ⟨p1,k1,rfl,s1⟩:=ha1
 refine zV 19 Tryz.func105 rfl fun h=>X0 11 rfl ?_
 refine ql (rL (fun m e w'=>∃ (i:Nat) (iv:Int),iv=(i:Int)∧m+i=xs.length+1∧i≤xs.length∧(∀ j (hj:j<xs.length),j<i→q xs[j]=false)∧e=[(0,.slice p1 xs.length k1),(1,.func (.func 48) #[] #[.pointer (some ⟨bl,0,none⟩),.pointer (some ⟨bp,0,none⟩)]),(7,.int .i64 (xs.length:Int)),(8,.int .i64 iv)]∧SH w w' []) (xs.length+1) ⟨0,0,rfl,rfl,jz _,fun _ _ h=>absurd h (Nat.not_lt_zero _),rfl,h⟩ rfl ?_)
 rintro m1 e1 w1 ⟨i,iv,rfl,hm,hi,hall,rfl,h⟩
 rcases m1 with _|m1
 ·omega
 refine X0 5 rfl (qkD rfl (fun ht=>?_) (fun hf=>?_))
 ·have hlt:i<xs.length:=by have:=of_decide_eq_true ht;omega
  refine X0 13 rfl ?_
  obtain ⟨b1,o1,q1,cs2,hp1,hq1,_,hr1,hc2⟩:=s1.at (idxN hlt)
  obtain ⟨p2,k2,rfl,s2⟩:=hr1
  obtain ⟨e,he,heq⟩:=hE _ (jp hlt)
  refine zx hp1 hq1 ⟨by omega,by omega⟩ rfl (zc 0 (hc2.below h.below) rfl ?_)
  refine qoo _ h (cB 48 rfl) (qlq (h.old ha2) ⟨_,_,rfl,h.oldS s2⟩ (hbl.below h.below) (hbp.below h.below) he heq) rfl rfl rfl rfl fun w2 h=>qa5 (qkD rfl (fun ht=>?_) (fun hf=>?_))
  ·refine X0 5 rfl ?_
   have hfi:xs.findIdx q=i:=by
    refine Nat.le_antisymm ?_ ?_
    ·exact Nat.le_of_not_lt fun hgt=>by
      have:=List.not_of_lt_findIdx hgt
      rw [ht] at this;cases this
    ·exact Nat.le_of_not_lt fun hgt=>by
      have h1:=hall _ (by omega) hgt
      have h2:=List.findIdx_getElem (xs:=xs) (p:=q) (w:=by omega)
      rw [h1] at h2;cases h2
   have hix:ixN q xs=(i:Int):=by unfold ixN;rw [hfi,decide_eq_true hlt];rfl
   rw [hix]
   exact ri h rfl rfl
  refine X0 6 rfl (rK ⟨i+1,_,?_,by omega,by omega,fun j hj hji=>?_,rfl,h⟩ rfl)
  ·exact w64N i (by omega)
  ·rcases Nat.lt_or_ge j i with h1|h1
   ·exact hall j hj h1
   ·obtain rfl:j=i:=by omega
    exact hf
 refine qp rfl ?_
 have hlt:¬ i<xs.length:=by have:=of_decide_eq_false hf;omega
 have hfi:¬ xs.findIdx q<xs.length:=fun hgt=>by
  have h1:=hall _ hgt (by omega)
  have h2:=List.findIdx_getElem (xs:=xs) (p:=q) (w:=hgt)
  rw [h1] at h2;cases h2
 have hix:ixN q xs=-1:=by unfold ixN;rw [decide_eq_false hfi];rfl
 rw [hix]
 exact X0 4 rfl (ri h rfl rfl)
theorem qri {n:Nat} {w0 w:World} {F:List Ch} {S:Nat→Prop} {list:List qa} {place:Int} {xs r:List (List Int)} {p:Option Addr} {ln c bl bp tl tp:Nat} {csl:List Value} (hl:GoT.R w0 (old w0) list csl)
  (h:SH w0 w (Ch.own S xs [.slice p ln c]::Ch.box bl csl tl::Ch.box bp [.int .i64 place] tp::F)) (hF:fltF (fun t=>qck n list t place) xs=some r) (hbig:xs.length≤1000000) :
  RetT Tryz.prog 47 [.slice p ln c,.func (.func 48) #[] #[.pointer (some ⟨bl,0,none⟩),.pointer (some ⟨bp,0,none⟩)]] w w0 (Ch.box bl csl tl::Ch.box bp [.int .i64 place] tp::F) r:=by
 obtain ⟨hE,hr⟩:=qoe hF
 obtain ⟨q,hq⟩:∃ q,q=fltP fun t=>qck n list t place:=⟨_,rfl⟩
 rw [←hq] at hE hr
 obtain rfl:ln=xs.length:=(h.sl 0 rfl).2
 refine qiZ Tryz.func47 rfl (m:=42) rfl rfl ?_
 refine X0 8 rfl ?_
 refine qqI (ixN q xs) h (cB 105 rfl) (qtN (h.own 0 rfl) (h.old hl) (h.box 1 rfl) (h.box 2 rfl) hE hbig) rfl rfl rfl rfl fun w1 h=>?_
 refine X0 8 rfl (qkD rfl (fun ht=>?_) (fun hf=>?_))
 ·have hno:¬ xs.findIdx q<xs.length:=fun hlt=>by
   have ht:(ixN q xs==-1)=true:=ht
   have h1:=eq_of_beq ht
   unfold ixN at h1
   rw [decide_eq_true hlt] at h1
   have h1:(xs.findIdx q:Int)=-1:=h1
   omega
  have hrx:xs.filter (fun t=>!q t)=xs:=List.filter_eq_self.2 fun t ht=>by
   obtain ⟨i,hi⟩:=List.mem_iff_getElem?.1 ht
   obtain ⟨hi1,hi2⟩:=List.getElem?_eq_some_iff.1 hi
   have:=List.not_of_lt_findIdx (p:=q) (xs:=xs) (i:=i) (by omega)
   rw [hi2] at this
   rw [this];rfl
  rw [hrx] at hr
  subst hr
  refine X0 5 rfl ?_
  exact qjG qb h ⟨rfl,trivial⟩
 have hlt0:xs.findIdx q<xs.length:=Nat.lt_of_not_le fun hge=>by
  have hf:(ixN q xs==-1)=false:=hf
  unfold ixN at hf
  rw [decide_eq_false (by omega)] at hf
  cases hf
 have hix:ixN q xs=(xs.findIdx q:Int):=by unfold ixN;rw [decide_eq_true hlt0];rfl
 rw [hix]
 obtain ⟨Sr,Se,rs,hrs,h⟩:=h.splitL
 obtain ⟨k0,hk0⟩:∃ k0,k0=xs.findIdx q:=⟨_,rfl⟩
 rw [←hk0] at hlt0 ⊢
 have hq0:q xs[k0]=true:=by subst hk0;exact List.findIdx_getElem (w:=hlt0)
 have hK0:kept (fun t=>!q t) xs rs k0=(xs.zip rs).take k0:=qqe (by omega) (by omega) fun i x hi hx=>by
  obtain ⟨hi1,hi2⟩:=List.getElem?_eq_some_iff.1 hx
  have:=List.not_of_lt_findIdx (p:=q) (xs:=xs) (i:=i) (by omega)
  rw [hi2] at this
  rw [this];rfl
 have hK1:kept (fun t=>!q t) xs rs (k0+1)=(xs.zip rs).take k0:=by
  rw [qod (ji hlt0) (ji (by omega:k0<rs.length)),hK0]
  simp [hq0]
 refine X0 7 rfl ?_
 refine ql (rL (fun m e w'=>∃ (i j:Nat) (iv jv:Int) (R:List (Raw (List Int))),iv=(i:Int)∧jv=(j:Int)∧m+j=xs.length+1∧j≤xs.length∧i<j∧(kept (fun t=>!q t) xs rs j).length=i∧R.length=xs.length∧R.take i=(kept (fun t=>!q t) xs rs j).map (·.2)∧(∀ m,j≤m→R[m]?=rs[m]?) ∧
   e=[(0,.slice p xs.length c),(1,.func (.func 48) #[] #[.pointer (some ⟨bl,0,none⟩),.pointer (some ⟨bp,0,none⟩)]),(5,.int .i64 iv),(6,.int .i64 jv)]∧SH w0 w' (Ch.own Sr R [.slice p xs.length c]::Ch.els Se xs rs::Ch.box bl csl tl::Ch.box bp [.int .i64 place] tp::F)) (xs.length-k0)
  ⟨k0,k0+1,_,_,rs,rfl,(by exact w64N k0 (by omega)),(by omega),(by omega),(by omega),(by rw [hK1];simp;omega),hrs,(by rw [hK1,List.map_take,List.map_snd_zip (by omega)]),fun _ _=>rfl,rfl,h⟩ rfl ?_)
 rintro m1 e1 w2 ⟨i,j,iv,jv,R,rfl,rfl,hm,hj,hij,hKl,hRl,hRt,hRd,rfl,h⟩
 rcases m1 with _|m1
 ·omega
 have hln:R.length=xs.length:=hRl
 refine X0 7 rfl (qkD rfl (fun ht=>?_) (fun hf=>?_))
 ·have hlt:j<xs.length:=by have:=of_decide_eq_true ht;omega
  have hx:xs[j]?=some xs[j]:=ji hlt
  have hrj:rs[j]?=some rs[j]:=ji (by omega)
  have hRj:idx R (j:Int)=some rs[j]:=by
   unfold idx
   rw [if_pos (by omega)]
   exact (hRd j (jf _)).trans hrj
  have hRi:idx R (i:Int)=some R[i]:=idxN (by omega)
  refine X0 7 rfl ?_
  obtain ⟨p2,k2,e2,s2⟩:=h.elsR 1 rfl hx hrj
  obtain ⟨b1,o1,q1,cs2,hp1,hq1,_,hr1,hc1⟩:=(h.sl 0 rfl).1.at hRj
  obtain ⟨rfl,hr2,hr3⟩:=hr1
  rw [e2] at hc1
  refine zx hp1 hq1 ⟨by omega,by omega⟩ rfl (zc 0 hc1 rfl ?_)
  obtain ⟨e,he,heq⟩:=hE _ (jp hlt)
  refine X0 6 rfl ?_
  refine qoo _ h (cB 48 rfl) (qlq (h.old hl) ⟨_,_,rfl,s2⟩ (h.box 2 rfl) (h.box 3 rfl) he heq) rfl rfl rfl rfl fun w3 h=>?_
  have hks:=qod (q:=fun t=>!q t) hx hrj
  refine X0 2 rfl (qkD rfl (fun ht=>?_) (fun hf=>?_))
  ·have ht:(!q xs[j])=true:=ht
   rw [ht] at hks
   refine X0 5 rfl ?_
   obtain ⟨b4,o4,q4,cs4,hp4,hq4,_,hr4,hc4⟩:=(h.sl 0 rfl).1.at hRi
   refine zx hp4 hq4 ⟨by omega,by omega⟩ rfl ?_
   have hr5:=hr4
   obtain ⟨rfl,hr6,hr7⟩:=hr5
   obtain ⟨v4,hv4⟩:∃ v,R[i].cs=[v]:=by
    have:R[i].cs.length=1:=hr6
    match R[i].cs,this with
    | [v],_=>exact ⟨v,rfl⟩
   rw [hv4] at hr4 hc4
   refine qbE qb 0 0 (hdr p2 xs[j].length k2) h rfl hRi hp4 hq4 hr4 hc4 rfl rfl rfl qh0 rfl rfl rfl fun w4 h=>?_
   refine X0 12 rfl (rK ⟨i+1,j+1,_,_,R.set i (hdr p2 xs[j].length k2),?_,?_,by omega,by omega,by omega,by rw [hks];simp [hKl],by simpa using hRl,?_,fun m hm=>?_,rfl,h⟩ rfl)
   ·exact w64N i (by omega)
   ·exact w64N j (by omega)
   ·have hh:(hdr p2 xs[j].length k2:Raw (List Int))=rs[j]:=by
     unfold hdr
     rw [←e2]
    rw [hks,jX,←hRt,hh]
    refine List.ext_getElem? fun m=>?_
    rw [jt,List.getElem?_set,List.getElem?_append,jZ,jt]
    rcases Nat.lt_trichotomy m i with h1|h1|h1
    ·rw [if_pos (by omega),if_neg (by omega),if_pos (by omega),if_pos h1]
    ·subst h1
     rw [if_pos (by omega),if_pos rfl,if_pos (by omega),if_neg (by omega),show m-min m R.length=0 by omega]
     rfl
    ·rw [if_neg (by omega),if_neg (by omega),List.getElem?_eq_none]
     simp;omega
   ·rw [List.getElem?_set_ne (by omega)]
    exact hRd m (by omega)
  ·have hf:(!q xs[j])=false:=hf
   rw [hf] at hks
   have hks:kept (fun t=>!q t) xs rs (j+1)=kept (fun t=>!q t) xs rs j:=by rw [hks];simp
   refine X0 7 rfl (rK ⟨i,j+1,_,_,R,rfl,?_,by omega,by omega,by omega,by rw [hks,hKl],hRl,by rw [hks,hRt],fun m hm=>hRd m (by omega),rfl,h⟩ rfl)
   exact w64N j (by omega)
 refine qp rfl ?_
 obtain rfl:j=xs.length:=by have:=of_decide_eq_false hf;omega
 rcases (h.sl 0 rfl).1.2.2 with ⟨_,hnil⟩|⟨b,o,cur,T,fr,rfl,-⟩
 ·rw [hnil] at hRl;simp at hRl;omega
 obtain ⟨rfl,-,-,hc1,hc2,cs,tb,hcl,hcs,h⟩:=h.toBox rfl
 refine X0 4 rfl ?_
 refine r_v (qdb qb rfl rfl rfl ⟨by omega,by omega,by omega,by omega⟩ (subP1 (b:=b) (o:=0) (c:=c) (l:=i) (by omega)) rfl rfl rfl rfl rfl rfl) rfl ?_
 refine qrJ qb 0 h rfl rfl rfl rfl rfl rfl rfl rfl (by omega) (by omega) fun w5 h=>?_
 refine X0 5 rfl ?_
 refine r_v (qdb qb rfl rfl rfl ⟨by omega,by omega,by omega,by omega⟩ (subP1 (b:=b) (o:=0) (c:=c) (l:=0) (by omega)) rfl rfl rfl rfl rfl rfl) rfl ?_
 refine X0 2 rfl ?_
 have h2:=SH.ofBox (α:=List Int) rfl (rs:=(kept (fun t=>!q t) xs rs xs.length).map (·.2)) h (c:=c) (by rw [qcj (by simp;omega),hcl]) (by simp;omega) hc2 fun m z hz=>?_
 ·replace h:=h2.pickT 2 [1,0] rfl
  replace h:=h.elsSub (qrO (fun t=>!q t) xs rs xs.length)
  replace h:=h.pickT 2 [1,0] rfl
  replace h:=h.joinL
  rw [qrV (by omega),hr] at h
  have hll:((kept (fun t=>!q t) xs rs xs.length).map (·.2)).length=i-0:=by simp [hKl]
  rw [hll] at h
  exact qjG qb h ⟨rfl,trivial⟩
 ·rw [←hRt,jt] at hz
  split at hz
  ·obtain ⟨v,e1,e2,e3⟩:=hcs m z hz
   exact ⟨v,e1,e2,by rw [getElem?_splice (by simp;omega),if_pos (by omega)];exact e3⟩
  ·cases hz
end Go.Fw


namespace Go.Fw
open Go Go.Proofs
open Go.RowKit (Below)
set_option maxRecDepth 100000
set_option maxHeartbeats 6400000
variable {n:Nat} {w:World} {cs1 cs2:List Value}
def qgB (n:Nat) (b:qd) (list:List qa) (a_end:Int):Option (List (List Int) × Int) :=
 (qgT n b list a_end).bind fun o=>match o with
  | (r1,r2) =>
   bif decide (r1.length≤1000000) then
    (fltF (fun t=>qck n list t a_end) r1).bind fun r3=>some (r3,r2)
   else none
theorem ql9 {b:qd} {list:List qa} {a_end:Int} (ha1:GoT.R w (old w) b cs1) (ha2:GoT.R w (old w) list cs2) {r:List (List Int) × Int} (hF:qgB n b list a_end=some r):RetV Tryz.prog 17 [GoT.v qd cs1,GoT.v (List qa) cs2,.int .i64 a_end] w r:=by
 obtain ⟨p1,k1,p2,k2,p3,k3,p4,k4,p5,k5,rfl,s1,s2,s3,s4,s5⟩:=qD ha1
 obtain ⟨p6,k6,rfl,s6⟩:=ha2
 refine zV 21 Tryz.func17 rfl fun h=>zSR (qO h rfl rfl fun w1 bb1 h=>qO h rfl rfl fun w2 bb2 h=>qO h rfl rfl fun w3 bb3 h=>?_)
 refine X3 8 2 1 0 h rfl ?_
 obtain ⟨⟨r1,r2⟩,hr,hF⟩:=qe hF
 refine qbZ (r1,r2) h (cB 13 rfl) (qka (h.old ha1) ⟨_,_,rfl,h.oldS s6⟩ hr) rfl rfl rfl rfl fun w4 S1 us hv hr3=>?_
 obtain ⟨S2,S3,p7,k7,us2,rfl,hv2,hr4⟩:=hv.consL hr3
 obtain ⟨rfl,h⟩:=hv2.lastI hr4
 cases hd:decide (r1.length≤1000000) with
 | false=>simp only [hd,cond_false] at hF;cases hF
 | true =>
  simp only [hd,cond_true] at hF
  obtain ⟨r3,hr5,hF⟩:=qe hF
  replace h:=h.pick [0,2,1] rfl
  refine X0 10 rfl ?_
  refine qlt (cB 47 rfl) (qri (F:=[]) (n:=n) (list:=list) (place:=a_end) ⟨_,_,rfl,s6⟩ h hr5 (of_decide_eq_true hd)) rfl rfl rfl rfl fun w5 S5 p8 k8 h=>?_
  refine X0 4 rfl ?_
  obtain rfl:=qc hF
  exact qar qb (ρ:=(List (List Int)) × Int) [GoT.v (List (List Int)) [.slice p8 r3.length k8],GoT.v Int [.int .i64 r2]] h ⟨rfl,rfl,trivial⟩ (PV.done h (qaC h (qC 0 h rfl) (qaD (qu (S:=fun _=>False) rfl)) (by rfl)))
end Go.Fw


namespace Go.Fw
open Go Go.Proofs
open Go.RowKit (Below)
set_option maxRecDepth 100000
set_option maxHeartbeats 6400000
variable {n:Nat} {w:World} {cs1 cs2 cs3 cs4 cs5 cs6 cs7 cs8 cs9:List Value}
def qnj (_:Nat) (code:(List (IntK .u8))):Option Bool :=
 some (decide ((code.length:Int) > 4096))
theorem qo4 {code:(List (IntK .u8))} (ha1:GoT.R w (old w) code cs1) {r:Bool} (hF:qnj n code=some r):RetV Tryz.prog 6 [GoT.v (List (IntK .u8)) cs1] w r:=by
 obtain ⟨p1,k1,rfl,s1⟩:=ha1
 exact zV 6 Tryz.func6 rfl fun h=>X0 11 rfl (rb h hF rfl)
def qfd (list:(List Int)) (x:Int):Nat→Int→Option (Flow Bool Int)
 | 0,_=>none
 | n+1,i1 =>
  bif decide (i1<(list.length:Int)) then
   (idx list i1).bind fun y1 =>
   bif (y1==x) then some (.ret true) else
   qfd list x n (W64 (i1+1))
  else
   some (.nxt i1)
def qiW (n:Nat) (list:(List Int)) (x:Int):Option Bool :=
 (qfd list x n 0).bind fun o=>match o with
 | .ret r=>some r
 | .nxt _ =>
  some false
theorem qnp {list:(List Int)} {x:Int} (ha1:GoT.R w (old w) list cs1) {r:Bool} (hF:qiW n list x=some r):RetV Tryz.prog 15 [GoT.v (List Int) cs1,.int .i64 x] w r:=by
 obtain ⟨p1,k1,rfl,s1⟩:=ha1
 refine zV 18 Tryz.func15 rfl fun h=>X0 9 rfl ?_
 obtain ⟨o1,hF,hK1⟩:=qe hF
 refine ql (rL (fun m e w'=>∃ (i1:Int),qfd list x m i1=some o1∧e=[(0,.slice p1 list.length k1),(1,.int .i64 x),(5,.int .i64 i1)]∧SH w w' []) n ⟨_,hF,rfl,h⟩ rfl ?_)
 rintro m1 e1 w1 ⟨i1,hF,rfl,h⟩
 rcases m1 with _|m1
 ·cases hF
 refine X0 8 rfl (qk rfl hF ?_ ?_)<;>intro hF
 ·refine X0 7 rfl ?_
  obtain ⟨y1,hy1,hF,he1,b1,_,q1,cs2,hp1,hq1,rfl,hc2⟩:=s1.ix hF
  refine zxe hp1 hq1 he1 rfl (zc 0 (hc2.below h.below) rfl (X0 3 rfl (qk rfl hF ?_ ?_)))<;>intro hF
  ·refine X0 4 rfl ?_
   obtain rfl:=qc hF;replace hF:=hK1
   exact rb h hF rfl
  exact X0 7 rfl (rK ⟨_,hF,rfl,h⟩ rfl)
 refine qp rfl ?_
 obtain rfl:=qc hF;replace hF:=hK1
 exact X0 4 rfl (rb h hF rfl)
def qb9 (a:(List Int)) (b:(List Int)):Nat→Int→Option (Flow Bool Int)
 | 0,_=>none
 | n+1,i1 =>
  bif decide (i1<(a.length:Int)) then
   (idx a i1).bind fun y1 =>
   (idx b i1).bind fun y2 =>
   bif (y1 != y2) then some (.ret false) else
   qb9 a b n (W64 (i1+1))
  else
   some (.nxt i1)
def qhD (n:Nat) (a:(List Int)) (b:(List Int)):Option Bool :=
 bif ((a.length:Int) != (b.length:Int)) then some false else
 (qb9 a b n 0).bind fun o=>match o with
 | .ret r=>some r
 | .nxt _ =>
  some true
theorem qlU {a:(List Int)} {b:(List Int)} (ha1:GoT.R w (old w) a cs1) (ha2:GoT.R w (old w) b cs2) {r:Bool} (hF:qhD n a b=some r):RetV Tryz.prog 16 [GoT.v (List Int) cs1,GoT.v (List Int) cs2] w r:=by
 obtain ⟨p1,k1,rfl,s1⟩:=ha1
 obtain ⟨p2,k2,rfl,s2⟩:=ha2
 refine zV 26 Tryz.func16 rfl fun h=>X0 13 rfl (qk rfl hF ?_ ?_)<;>intro hF
 ·exact X0 4 rfl (rb h hF rfl)
 refine X0 6 rfl ?_
 obtain ⟨o1,hF,hK1⟩:=qe hF
 refine ql (rL (fun m e w'=>∃ (i1:Int),qb9 a b m i1=some o1∧e=[(0,.slice p1 a.length k1),(1,.slice p2 b.length k2),(5,.int .i64 i1)]∧SH w w' []) n ⟨_,hF,rfl,h⟩ rfl ?_)
 rintro m1 e1 w1 ⟨i1,hF,rfl,h⟩
 rcases m1 with _|m1
 ·cases hF
 refine X0 8 rfl (qk rfl hF ?_ ?_)<;>intro hF
 ·refine X0 4 rfl (rD (zd2 rfl ?_))
  obtain ⟨y1,hy1,hF,he1,b1,_,q1,cs3,hp1,hq1,rfl,hc3⟩:=s1.ix hF
  refine zdxe hp1 hq1 he1 rfl (zdc 0 (hc3.below h.below) rfl (zd2 rfl ?_))
  obtain ⟨y2,hy2,hF,he2,b2,_,q2,cs4,hp2,hq2,rfl,hc4⟩:=s2.ix hF
  refine zdxe hp2 hq2 he2 rfl (zdc 0 (hc4.below h.below) rfl (zd1 rfl (dN h fun w2 h=>qk rfl hF ?_ ?_)))<;>intro hF
  ·refine X0 4 rfl ?_
   obtain rfl:=qc hF;replace hF:=hK1
   exact rb h hF rfl
  exact X0 7 rfl (rK ⟨_,hF,rfl,h⟩ rfl)
 refine qp rfl ?_
 obtain rfl:=qc hF;replace hF:=hK1
 exact X0 4 rfl (rb h hF rfl)
def qdc (r7:(List Int)) (r34:(List (List Int))):Nat→Bool→Int→Option (Bool × Int)
 | 0,_,_=>none
 | n+1,b5,i1 =>
  bif decide (i1<(r34.length:Int)) then
   bif b5 then qdc r7 r34 n true (W64 (i1+1)) else
   (idx r34 i1).bind fun y3 =>
   (qhD n y3 r7).bind fun r44 =>
   qdc r7 r34 n r44 (W64 (i1+1))
  else
   some (b5,i1)
def qkE (n:Nat) (a_0:(List (IntK .u8))):Option Bool :=
 (qnj n a_0).bind fun r1 =>
 bif r1 then some true else
 (qc9 n a_0).bind fun o=>match o with
  | (r3,r4,r5) =>
   (qiC n r3 r4 r5).bind fun o=>match o with
    | (r7,r8) =>
     (qc9 n a_0).bind fun o=>match o with
      | (r10,r11,r12) =>
       bif (r8 != 0) then
        (qjR n r10 r11 r12).bind fun o=>match o with
         | (_,r15) =>
          (
           bif (r8==r15) then some ((r7.length:Int)==0) else
           some false).bind fun b1 =>
          some b1
       else
        (idx r12 (W64 ((r12.length:Int)-1))).bind fun y1 =>
        (appS ([]:List Int) r7).bind fun x1 =>
        (qgd n r10 r11 x1 y1).bind fun o=>match o with
         | (r17,r18) =>
          (qc9 n a_0).bind fun o=>match o with
           | (r20,r21,r22) =>
            (qhJ n r20 r21 r22).bind fun o=>match o with
             | (r24,r25) =>
              (qc9 n a_0).bind fun o=>match o with
               | (r27,r28,_) =>
                (
                 bif (r18 != 0) then some true else
                 bif (r25 != 0) then some true else
                 some (!((r17.Bm==r24.Bm)&&((r17.Bs==r24.Bs)&&((r17.Bp==r24.Bp)&&((r17.Bq==r24.Bq)&&true)))))).bind fun b3 =>
                bif b3 then some false else
                (qgm n r27).bind fun o=>match o with
                 | (r31,_) =>
                  (qgT n r27 r28 y1).bind fun o=>match o with
                   | (r34,r35) =>
                    (qc9 n a_0).bind fun o=>match o with
                     | (r37,r38,r39) =>
                      bif (r35 != 0) then
                       (qhT n r37 r38 y1).bind fun o=>match o with
                        | (_,r42) =>
                         some (r35==r42)
                      else
                       (idx r39 0).bind fun y2 =>
                       (qiW n r31 y2).bind fun r43 =>
                       (qdc r7 r34 n (!r43) 0).bind fun o=>match o with
                       | (b5,_) =>
                        (qgB n r37 r38 y1).bind fun o=>match o with
                         | (r46,r47) =>
                          bif b5 then
                           bif (r47==0) then some (decide ((r46.length:Int)≤(r34.length:Int))) else
                           some false
                          else
                           some false
theorem qm7 {a_0:(List (IntK .u8))} (ha1:GoT.R w (old w) a_0 cs1) {r:Bool} (hF:qkE n a_0=some r):RetV Tryz.prog 3 [GoT.v (List (IntK .u8)) cs1] w r:=by
 obtain ⟨p1,k1,rfl,s1⟩:=ha1
 refine zV 179 Tryz.func3 rfl fun h=>X0 8 rfl (zcB h hF (qo4 ⟨_,_,rfl,(h.oldS s1)⟩) rfl fun r1 w1 h hF=>qa5 (qk rfl hF ?_ ?_))<;>intro hF
 ·exact X0 4 rfl (rb h hF rfl)
 refine X0 4 rfl ?_
 have hg1:Rg (old w) w (old w) w:=.start (fun _ h=>h)
 obtain ⟨r2,hr2,hF⟩:=qe hF
 obtain ⟨r3,r4,r5⟩:=r2
 refine qhI (r3,r4,r5) hg1 h (cB 7 rfl) (qeL (hg1.atB h) ⟨_,_,rfl,(hg1.inBS h s1)⟩ hr2) rfl rfl rfl rfl fun w2 us1 S1 h hv1=>?_
 obtain ⟨cs2,us2,rfl,hr3,hv2⟩:=qev hv1
 have hr4:=hr3
 obtain ⟨p2,k2,p3,k3,p4,k4,p5,k5,p6,k6,rfl,s2,s3,s4,s5,s6⟩:=qD hr3
 replace h:=h.grpAdd 0 rfl hr4
 obtain ⟨cs3,us3,rfl,hr5,hv3⟩:=qev hv2
 have hr6:=hr5
 obtain ⟨p7,k7,rfl,s7⟩:=hr5
 replace h:=h.grpAdd 0 rfl hr6
 obtain ⟨cs4,rfl,hr7⟩:=qgt hv3
 have hr8:=hr7
 obtain ⟨p8,k8,rfl,s8⟩:=hr7
 replace h:=h.grpAdd 0 rfl hr8
 refine zp4 rfl (qB qb h rfl rfl rfl fun w3 bb1 h=>zs 0 h rfl fun w4 h=>X1 8 0 h rfl ?_)
 obtain ⟨r6,hr9,hF⟩:=qe hF
 obtain ⟨r7,r8⟩:=r6
 refine qbZ (r7,r8) h (cB 8 rfl) (qnL (h.grp 1 2 rfl rfl) (h.grp 1 1 rfl rfl) (h.grp 1 0 rfl rfl) hr9) rfl rfl rfl rfl fun w5 S2 us4 hv4 hr10=>?_
 obtain ⟨S3,S4,p9,k9,us5,rfl,hv5,hr11⟩:=hv4.consL hr10
 obtain ⟨rfl,h⟩:=hv5.lastI hr11
 refine X0 9 rfl ?_
 obtain ⟨r9,hr13,hF⟩:=qe hF
 obtain ⟨r10,r11,r12⟩:=r9
 refine qhI (r10,r11,r12) hg1 h (cB 7 rfl) (qeL (hg1.atB h) ⟨_,_,rfl,(hg1.inBS h s1)⟩ hr13) rfl rfl rfl rfl fun w6 us6 S6 h hv7=>?_
 obtain ⟨cs5,us7,rfl,hr14,hv8⟩:=qev hv7
 have hr15:=hr14
 obtain ⟨p10,k10,p11,k11,p12,k12,p13,k13,p14,k14,rfl,s9,s10,s11,s12,s13⟩:=qD hr14
 replace h:=h.grpAdd 0 rfl hr15
 obtain ⟨cs6,us8,rfl,hr16,hv9⟩:=qev hv8
 have hr17:=hr16
 obtain ⟨p15,k15,rfl,s14⟩:=hr16
 replace h:=h.grpAdd 0 rfl hr17
 obtain ⟨cs7,rfl,hr18⟩:=qgt hv9
 have hr19:=hr18
 obtain ⟨p16,k16,rfl,s15⟩:=hr18
 replace h:=h.grpAdd 0 rfl hr19
 refine zp4 rfl (zs 2 h rfl fun w7 h=>X0 9 rfl (qk rfl hF ?_ ?_))<;>intro hF
 ·refine X1 5 2 h rfl ?_
  obtain ⟨r13,hr20,hF⟩:=qe hF
  obtain ⟨r14,r15⟩:=r13
  refine qbZ (r14,r15) h (cB 9 rfl) (qnC (h.grp 0 2 rfl rfl) (h.grp 0 1 rfl rfl) (h.grp 0 0 rfl rfl) hr20) rfl rfl rfl rfl fun w8 S7 us9 hv10 hr21=>?_
  obtain ⟨S8,S9,p17,k17,us10,rfl,hv11,hr22⟩:=hv10.consL hr21
  obtain ⟨rfl,h⟩:=hv11.lastI hr22
  refine X0 7 rfl ?_
  obtain ⟨KF1,hKF1,o1,hF,hK1⟩:=bindE hF
  refine qa8 (fun e w'=>∃ (b1:Bool),KF1 b1=some r∧e=[(2,.bool b1)]∧SH w w' []) ?_ ?_
  ·refine X0 5 rfl (qh (t:=58) hF rfl ?_ ?_)<;>intro hF
   ·refine X0 9 rfl ?_
    replace h:=h.grpKeep [2] 1 rfl
    replace h:=h.pick [0,1,2,3] rfl
    replace h:=h.pick [] rfl
    obtain rfl:=qc hF
    exact rG ⟨_,hK1,rfl,h⟩ rfl
   refine X0 6 rfl ?_
   replace h:=h.grpKeep [2] 1 rfl
   replace h:=h.pick [0,1,2,3] rfl
   replace h:=h.pick [] rfl
   obtain rfl:=qc hF
   exact rG ⟨_,hK1,rfl,h⟩ rfl
  rintro e1 w9 ⟨b1,hF,rfl,h⟩
  subst hKF1
  exact rb h hF rfl
 refine X0 7 rfl ?_
 obtain ⟨y1,hy1,hF,he1,b2,_,q1,cs8,hp1,hq1,rfl,hc3⟩:=(qfz (h.grp 0 0 rfl rfl)).1.ix hF
 refine zx hp1 hq1 ⟨he1.1,qI he1.2.1 (qfz (h.grp 0 0 rfl rfl)).2⟩ rfl (zc 0 hc3 rfl (X0 3 rfl ?_))
 obtain ⟨x1,hx1,hF⟩:=qe hF
 obtain ⟨r16,hr25,hF⟩:=qe hF
 obtain ⟨r17,r18⟩:=r16
 refine qa8 (fun e w'=>∃ (bb7:Nat),e=[(0,.slice p1 a_0.length k1),(3,.pointer (some ⟨bb1,0,none⟩)),(6,.slice p9 r7.length k9),(10,.int .i64 y1),(11,.pointer (some ⟨bb7,0,none⟩)),(12,.int .i64 r18)]∧SH w w' [Ch.box bb7 (qjp r17) 42,Ch.grp (old w) S6 [fct (r12:(List Int)) [.slice p16 r12.length k16],fct (r11:(List qa)) [.slice p15 r11.length k15],fct (r10:qd) [.slice p10 r10.Af.Aj.length k10,.slice p11 r10.Aa.Ab.length k11,.slice p12 r10.Aa.Ai.length k12,.slice p13 r10.Aa.Ac.length k13,.slice p14 r10.Ah.length k14]],Ch.own S3 (r7:List Int) [.slice p9 r7.length k9],Ch.box bb1 (qA r10 p10 p11 p12 p13 p14 k10 k11 k12 k13 k14) 34]) ?_ ?_
 ·refine rA [] [2] h rfl fun w15 h=>M1 43 [0,1,3,5] 0 (h.pick [2] rfl) rfl (At 2 10 47 1067 rfl ?_ ?_)
  ·refine qm qb [] _ ([]:List Int) h rfl rfl rfl rfl rfl rfl rfl rfl rfl trivial rfl fun w33 p25 S38 h=>Ag (h.pick [3] rfl) (At 4 10 63 1071 rfl ?_ ?_)
   ·obtain ⟨g5,hx1⟩:=qr hx1
    refine qaf qb 0 h rfl (h.sl 2 rfl).1 (h.sl 2 rfl).2 rfl rfl rfl rfl rfl rfl rfl rfl rfl g5 hx1 rfl fun w34 p26 k22 S39 h=>Ag (h.pick [3] rfl) (At 6 10 127 1087 rfl ?_ ?_)
    ·refine qbZ (r17,r18) h (cB 10 rfl) (qeX (h.grp 1 2 rfl rfl) (h.grp 1 1 rfl rfl) (h.own 0 rfl) hr25) rfl rfl rfl rfl fun w35 S40 us21 hv28 hr41=>?_
     obtain ⟨S41,S42,cs14,us22,rfl,hv29,hr42⟩:=hv28.cons hr41
     obtain rfl:=qeB (hv29.sh.own 0 rfl)
     obtain ⟨rfl,h⟩:=hv29.lastI hr42
     refine G0 1023 [7,8,9] (h.pick [4] rfl) rfl (Ao 10 2047 rfl (qB qb h rfl rfl rfl fun w36 bb8 h=>Ag (h.pick [5] rfl) (Ao 11 4095 rfl (zs 0 h rfl fun w37 h=>G0 8191 [12] (h.pick [5] rfl) rfl (Ad ?_)))))
     replace h:=h.pick [0,3,4,5] rfl
     exact rG ⟨_,rfl,h⟩ rfl
    refine qB qb h rfl rfl rfl fun w38 bb9 h=>Ag (h.pick [4] rfl) (Ao 6 1151 rfl (qbZ (r17,r18) h (cB 10 rfl) (qeX (h.grp 2 2 rfl rfl) (h.grp 2 1 rfl rfl) (h.own 1 rfl) hr25) rfl rfl rfl rfl fun w39 S44 us23 hv31 hr44=>?_))
    obtain ⟨S45,S46,cs15,us24,rfl,hv32,hr45⟩:=hv31.cons hr44
    obtain rfl:=qeB (hv32.sh.own 0 rfl)
    obtain ⟨rfl,h⟩:=hv32.lastI hr45
    refine G0 2047 [7,8,9] (h.pick [5] rfl) rfl (Ao 11 4095 rfl (zs 1 h rfl fun w40 h=>G0 8191 [12] (h.pick [5] rfl) rfl (Ad ?_)))
    replace h:=h.pick [1,3,4,5] rfl
    exact rG ⟨_,rfl,h⟩ rfl
   refine qB qb h rfl rfl rfl fun w41 bb10 h=>Ag (h.pick [4] rfl) (Ao 4 1087 rfl ?_)
   obtain ⟨g6,hx1⟩:=qr hx1
   refine qaf qb 1 h rfl (h.sl 3 rfl).1 (h.sl 3 rfl).2 rfl rfl rfl rfl rfl rfl rfl rfl rfl g6 hx1 rfl fun w42 p27 k23 S48 h=>Ag (h.pick [4] rfl) (Ao 6 1151 rfl (qbZ (r17,r18) h (cB 10 rfl) (qeX (h.grp 2 2 rfl rfl) (h.grp 2 1 rfl rfl) (h.own 1 rfl) hr25) rfl rfl rfl rfl fun w43 S49 us25 hv34 hr47=>?_))
   obtain ⟨S50,S51,cs16,us26,rfl,hv35,hr48⟩:=hv34.cons hr47
   obtain rfl:=qeB (hv35.sh.own 0 rfl)
   obtain ⟨rfl,h⟩:=hv35.lastI hr48
   refine G0 2047 [7,8,9] (h.pick [5] rfl) rfl (Ao 11 4095 rfl (zs 1 h rfl fun w44 h=>G0 8191 [12] (h.pick [5] rfl) rfl (Ad ?_)))
   replace h:=h.pick [1,3,4,5] rfl
   exact rG ⟨_,rfl,h⟩ rfl
  refine qB qb h rfl rfl rfl fun w45 bb11 h=>Ag (h.pick [3] rfl) (Ao 2 1071 rfl (qm qb [] _ ([]:List Int) h rfl rfl rfl rfl rfl rfl rfl rfl rfl trivial rfl fun w46 p28 S53 h=>Ag (h.pick [4] rfl) (Ao 4 1087 rfl ?_)))
  obtain ⟨g7,hx1⟩:=qr hx1
  refine qaf qb 0 h rfl (h.sl 3 rfl).1 (h.sl 3 rfl).2 rfl rfl rfl rfl rfl rfl rfl rfl rfl g7 hx1 rfl fun w47 p29 k24 S54 h=>Ag (h.pick [4] rfl) (Ao 6 1151 rfl (qbZ (r17,r18) h (cB 10 rfl) (qeX (h.grp 2 2 rfl rfl) (h.grp 2 1 rfl rfl) (h.own 0 rfl) hr25) rfl rfl rfl rfl fun w48 S55 us27 hv37 hr50=>?_))
  obtain ⟨S56,S57,cs17,us28,rfl,hv38,hr51⟩:=hv37.cons hr50
  obtain rfl:=qeB (hv38.sh.own 0 rfl)
  obtain ⟨rfl,h⟩:=hv38.lastI hr51
  refine G0 2047 [7,8,9] (h.pick [5] rfl) rfl (Ao 11 4095 rfl (zs 2 h rfl fun w49 h=>G0 8191 [12] (h.pick [5] rfl) rfl (Ad ?_)))
  replace h:=h.pick [2,3,4,5] rfl
  exact rG ⟨_,rfl,h⟩ rfl
 rintro e2 w50 ⟨bb7,rfl,h⟩
 refine X0 3 rfl ?_
 obtain ⟨r19,hr53,hF⟩:=qe hF
 obtain ⟨r20,r21,r22⟩:=r19
 refine qhI (r20,r21,r22) hg1 h (cB 7 rfl) (qeL (hg1.atB h) ⟨_,_,rfl,(hg1.inBS h s1)⟩ hr53) rfl rfl rfl rfl fun w51 us29 S59 h hv40=>?_
 obtain ⟨cs18,us30,rfl,hr54,hv41⟩:=qev hv40
 have hr55:=hr54
 obtain ⟨p30,k25,p31,k26,p32,k27,p33,k28,p34,k29,rfl,s16,s17,s18,s19,s20⟩:=qD hr54
 replace h:=h.grpAdd 0 rfl hr55
 obtain ⟨cs19,us31,rfl,hr56,hv42⟩:=qev hv41
 have hr57:=hr56
 obtain ⟨p35,k30,rfl,s21⟩:=hr56
 replace h:=h.grpAdd 0 rfl hr57
 obtain ⟨cs20,rfl,hr58⟩:=qgt hv42
 have hr59:=hr58
 obtain ⟨p36,k31,rfl,s22⟩:=hr58
 replace h:=h.grpAdd 0 rfl hr59
 refine zp4 rfl (zs 4 h rfl fun w52 h=>X1 8 4 h rfl ?_)
 obtain ⟨r23,hr60,hF⟩:=qe hF
 obtain ⟨r24,r25⟩:=r23
 refine qbZ (r24,r25) h (cB 11 rfl) (qmd (h.grp 0 2 rfl rfl) (h.grp 0 1 rfl rfl) (h.grp 0 0 rfl rfl) hr60) rfl rfl rfl rfl fun w53 S60 us32 hv43 hr61=>?_
 obtain ⟨S61,S62,cs21,us33,rfl,hv44,hr62⟩:=hv43.cons hr61
 obtain rfl:=qeB (hv44.sh.own 0 rfl)
 obtain ⟨rfl,h⟩:=hv44.lastI hr62
 refine zp3 rfl (qB qb h rfl rfl rfl fun w54 bb12 h=>zs 0 h rfl fun w55 h=>X0 5 rfl ?_)
 obtain ⟨r26,hr64,hF⟩:=qe hF
 obtain ⟨r27,r28,r29⟩:=r26
 refine qhI (r27,r28,r29) hg1 h (cB 7 rfl) (qeL (hg1.atB h) ⟨_,_,rfl,(hg1.inBS h s1)⟩ hr64) rfl rfl rfl rfl fun w56 us34 S64 h hv46=>?_
 obtain ⟨cs22,us35,rfl,hr65,hv47⟩:=qev hv46
 have hr66:=hr65
 obtain ⟨p37,k32,p38,k33,p39,k34,p40,k35,p41,k36,rfl,s23,s24,s25,s26,s27⟩:=qD hr65
 replace h:=h.grpAdd 0 rfl hr66
 obtain ⟨cs23,us36,rfl,hr67,hv48⟩:=qev hv47
 have hr68:=hr67
 obtain ⟨p42,k37,rfl,s28⟩:=hr67
 replace h:=h.grpAdd 0 rfl hr68
 obtain ⟨cs24,rfl,hr69⟩:=qgt hv48
 have hr70:=hr69
 obtain ⟨p43,k38,rfl,s29⟩:=hr69
 replace h:=h.grpAdd 0 rfl hr70
 refine zp4 rfl (zs 7 h rfl fun w57 h=>X0 5 rfl ?_)
 obtain ⟨KF2,hKF2,o3,hF,hK3⟩:=bindE hF
 refine qa8 (fun e w'=>∃ (b3:Bool),KF2 b3=some r∧e=[(0,.slice p1 a_0.length k1),(3,.pointer (some ⟨bb1,0,none⟩)),(4,.slice p42 r28.length k37),(6,.slice p9 r7.length k9),(10,.int .i64 y1),(108,.bool b3)]∧SH w w' [Ch.grp (old w) S64 [fct (r28:(List qa)) [.slice p42 r28.length k37],fct (r27:qd) [.slice p37 r27.Af.Aj.length k32,.slice p38 r27.Aa.Ab.length k33,.slice p39 r27.Aa.Ai.length k34,.slice p40 r27.Aa.Ac.length k35,.slice p41 r27.Ah.length k36]],Ch.own S3 (r7:List Int) [.slice p9 r7.length k9],Ch.box bb1 (qA r27 p37 p38 p39 p40 p41 k32 k33 k34 k35 k36) 34]) ?_ ?_
 ·refine X0 4 rfl (qh (t:=100) hF rfl ?_ ?_)<;>intro hF
  ·refine X0 9 rfl ?_
   replace h:=h.grpKeep [1,2] 0 rfl
   replace h:=h.pick [0,1,2,4,5,6,7] rfl
   replace h:=h.pick [0,1,2,3,5,6] rfl
   replace h:=h.pick [0,4,5] rfl
   obtain rfl:=qc hF
   exact rG ⟨_,hK3,rfl,h⟩ rfl
  refine X0 6 rfl (qh (t:=104) hF rfl ?_ ?_)<;>intro hF
  ·refine X0 5 rfl ?_
   replace h:=h.grpKeep [1,2] 0 rfl
   replace h:=h.pick [0,1,2,4,5,6,7] rfl
   replace h:=h.pick [0,1,2,3,5,6] rfl
   replace h:=h.pick [0,4,5] rfl
   obtain rfl:=qc hF
   exact rG ⟨_,hK3,rfl,h⟩ rfl
  refine X2 5 4 1 h rfl (r_v (qty (by kernel_rfl) rfl rfl) rfl (X0 2 rfl ?_))
  replace h:=h.grpKeep [1,2] 0 rfl
  replace h:=h.pick [0,1,2,4,5,6,7] rfl
  replace h:=h.pick [0,1,2,3,5,6] rfl
  replace h:=h.pick [0,4,5] rfl
  obtain rfl:=qc hF
  exact rG ⟨_,hK3,rfl,h⟩ rfl
 rintro e4 w67 ⟨b3,hF,rfl,h⟩
 subst hKF2
 refine qk rfl hF ?_ ?_<;>intro hF
 ·refine X0 4 rfl ?_
  replace h:=h.pick [1,2] rfl
  exact rb h hF rfl
 refine X1 4 2 h rfl ?_
 obtain ⟨r30,hr71,hF⟩:=qe hF
 obtain ⟨r31,r32⟩:=r30
 refine qbZ (r31,r32) h (cB 12 rfl) (qk2 (h.grp 0 1 rfl rfl) hr71) rfl rfl rfl rfl fun w58 S65 us37 hv49 hr72=>?_
 obtain ⟨S66,S67,p44,k39,us38,rfl,hv50,hr73⟩:=hv49.consL hr72
 obtain ⟨rfl,h⟩:=hv50.lastI hr73
 refine X1 11 3 h rfl ?_
 obtain ⟨r33,hr75,hF⟩:=qe hF
 obtain ⟨r34,r35⟩:=r33
 refine qbZ (r34,r35) h (cB 13 rfl) (qka (h.grp 1 1 rfl rfl) (h.grp 1 0 rfl rfl) hr75) rfl rfl rfl rfl fun w59 S69 us39 hv52 hr76=>?_
 obtain ⟨S70,S71,p45,k40,us40,rfl,hv53,hr77⟩:=hv52.consL hr76
 obtain ⟨rfl,h⟩:=hv53.lastI hr77
 refine X0 9 rfl ?_
 obtain ⟨r36,hr79,hF⟩:=qe hF
 obtain ⟨r37,r38,r39⟩:=r36
 refine qhI (r37,r38,r39) hg1 h (cB 7 rfl) (qeL (hg1.atB h) ⟨_,_,rfl,(hg1.inBS h s1)⟩ hr79) rfl rfl rfl rfl fun w60 us41 S73 h hv55=>?_
 obtain ⟨cs25,us42,rfl,hr80,hv56⟩:=qev hv55
 have hr81:=hr80
 obtain ⟨p46,k41,p47,k42,p48,k43,p49,k44,p50,k45,rfl,s30,s31,s32,s33,s34⟩:=qD hr80
 replace h:=h.grpAdd 0 rfl hr81
 obtain ⟨cs26,us43,rfl,hr82,hv57⟩:=qev hv56
 have hr83:=hr82
 obtain ⟨p51,k46,rfl,s35⟩:=hr82
 replace h:=h.grpAdd 0 rfl hr83
 obtain ⟨cs27,rfl,hr84⟩:=qgt hv57
 have hr85:=hr84
 obtain ⟨p52,k47,rfl,s36⟩:=hr84
 replace h:=h.grpAdd 0 rfl hr85
 refine zp4 rfl (zs 5 h rfl fun w61 h=>X0 9 rfl (qk rfl hF ?_ ?_))<;>intro hF
 ·refine X1 5 5 h rfl ?_
  obtain ⟨r40,hr86,hF⟩:=qe hF
  obtain ⟨r41,r42⟩:=r40
  refine qbZ (r41,r42) h (cB 14 rfl) (qnr (h.grp 0 2 rfl rfl) (h.grp 0 1 rfl rfl) hr86) rfl rfl rfl rfl fun w62 S74 us44 hv58 hr87=>?_
  obtain ⟨S75,S76,p53,k48,us45,rfl,hv59,hr88⟩:=hv58.consL hr87
  obtain ⟨rfl,h⟩:=hv59.lastI hr88
  refine X0 13 rfl ?_
  replace h:=h.pick [0,2,3,5,6] rfl
  exact rb h hF rfl
 refine X0 5 rfl ?_
 obtain ⟨y2,hy2,hF,he2,b4,_,q2,cs28,hp2,hq2,rfl,hc6⟩:=(qfz (h.grp 0 0 rfl rfl)).1.ix hF
 refine zx hp2 hq2 ⟨he2.1,qI he2.2.1 (qfz (h.grp 0 0 rfl rfl)).2⟩ rfl (zc 0 hc6 rfl (zcB h hF (qnp (h.own 2 rfl)) rfl fun r43 w63 h hF=>X0 8 rfl ?_))
 replace h:=h.grpKeep [1,2] 0 rfl
 replace h:=h.pick [0,1,2,4,5] rfl
 obtain ⟨o2,hF,hK2⟩:=qe hF
 refine ql ?_
 replace h:=h.pick [0,1,3,4] rfl
 refine rL (fun m e w'=>∃ (b5:Bool) (i1:Int),qdc r7 r34 m b5 i1=some o2∧e=[(3,.pointer (some ⟨bb1,0,none⟩)),(4,.slice p51 r38.length k46),(6,.slice p9 r7.length k9),(10,.int .i64 y1),(17,.slice p45 r34.length k40),(21,.bool b5),(22,.int .i64 i1)]∧SH w w' [Ch.grp (old w) S73 [fct (r38:(List qa)) [.slice p51 r38.length k46],fct (r37:qd) [.slice p46 r37.Af.Aj.length k41,.slice p47 r37.Aa.Ab.length k42,.slice p48 r37.Aa.Ai.length k43,.slice p49 r37.Aa.Ac.length k44,.slice p50 r37.Ah.length k45]],Ch.own S70 (r34:List (List Int)) [.slice p45 r34.length k40],Ch.own S3 (r7:List Int) [.slice p9 r7.length k9],Ch.box bb1 (qA r37 p46 p47 p48 p49 p50 k41 k42 k43 k44 k45) 34]) n ⟨_,_,hF,rfl,h⟩ rfl ?_
 rintro m1 e3 w64 ⟨b5,i1,hF,rfl,h⟩
 rcases m1 with _|m1
 ·cases hF
 refine X0 8 rfl (qk rfl hF ?_ ?_)<;>intro hF
 ·refine X0 6 rfl (qh (t:=152) hF rfl ?_ ?_)<;>intro hF
  ·exact X0 15 rfl (rK ⟨_,_,hF,rfl,h⟩ rfl)
  refine X0 5 rfl ?_
  obtain ⟨y3,hy3,hF⟩:=qe hF
  have he3:=qax hy3
  replace h:=h.lrn0 1 rfl
  obtain ⟨b6,o_3,q3,cs29,hp3,hq3,-,hr92,hc8⟩:=(qfz (h.lrnO 1 rfl)).1.at hy3
  have hr93:=hr92
  obtain ⟨p54,k49,rfl,s37⟩:=hr92
  replace h:=h.lrnAdd 1 rfl hr93
  refine zx hp3 hq3 ⟨he3.1,qI he3.2.1 (qfz (h.lrnO 1 rfl)).2⟩ rfl (X0 1 rfl (zc 0 hc8 rfl (X0 3 rfl (zcB h hF (qlU (GoT.mono (h.lrnS 1 0 rfl rfl) (h.lrnB 1 rfl)) (h.own 2 rfl)) rfl fun r44 w65 h hF=>X0 9 rfl ?_))))
  replace h:=h.unlrn 1 rfl
  exact rK ⟨_,_,hF,rfl,h⟩ rfl
 refine qp rfl ?_
 obtain rfl:=qc hF;replace hF:=hK2
 refine X1 5 3 h rfl ?_
 obtain ⟨r45,hr95,hF⟩:=qe hF
 obtain ⟨r46,r47⟩:=r45
 refine qbZ (r46,r47) h (cB 17 rfl) (ql9 (h.grp 0 1 rfl rfl) (h.grp 0 0 rfl rfl) hr95) rfl rfl rfl rfl fun w66 S78 us46 hv61 hr96=>?_
 obtain ⟨S79,S80,p55,k50,us47,rfl,hv62,hr97⟩:=hv61.consL hr96
 obtain ⟨rfl,h⟩:=hv62.lastI hr97
 refine X0 10 rfl (qh (t:=168) hF rfl ?_ ?_)<;>intro hF
 ·refine X0 6 rfl (qh (t:=172) hF rfl ?_ ?_)<;>intro hF
  ·refine X0 13 rfl ?_
   replace h:=h.pick [0,2,3,4] rfl
   exact rb h hF rfl
  refine X0 8 rfl ?_
  replace h:=h.pick [0,2,3,4] rfl
  exact rb h hF rfl
 refine X0 12 rfl ?_
 replace h:=h.pick [0,2,3,4] rfl
 exact rb h hF rfl
end Go.Fw


namespace Go.Fw
open Go
set_option maxRecDepth 100000
theorem qnX {e:qa} {f p:Int} (h:-1≤f∧f≤(e.Am.length:Int)):-1≤stepT e f p∧stepT e f p≤(e.Am.length:Int):=by
 unfold stepT
 cases hc:(decide (f ≥ 0)&&(decide (f<(e.Am.length:Int))&&(at0 e.Am f.toNat==p)))
 ·exact h
 ·simp only [jg,decide_eq_true_eq] at hc
  simp only [cond_true]
  omega
theorem qrY {e:qa} {xs:List Int}:∀ {f:Int},(-1≤f∧f≤(e.Am.length:Int))→-1≤xs.foldl (stepT e) f∧xs.foldl (stepT e) f≤(e.Am.length:Int):=by
 induction xs with
 | nil=>intro f h;exact h
 | cons x xs ih=>intro f h;exact ih (qnX h)
theorem qsc {e:qa} {path:List Int}:-1≤runT e path∧runT e path≤(e.Am.length:Int):=by
 unfold runT
 refine qrY ?_
 unfold beginT
 cases fromB e (at0 path 0)
 ·simp only [cond_false];omega
 ·exact qnX (by omega)
theorem qsD {es:List qa} {path:List Int}:fitsB es (runTs es path)=true:=by
 unfold fitsB
 rw [jg,qju]
 refine ⟨by simp,qay.2 fun i hi=>?_⟩
 have e:at0 (runTs es path) i=runT (gt es i) path:=by
  rw [qpP (by rw [qju];exact hi),qhS hi]
  simp [runTs]
 rw [qbT,e]
 exact qsc
section
variable {code:List (IntK .u8)}
theorem qr2 {b:qd} {es:List qa} {p:Int} (h:codeX b es=0) (hp:inPl b p=true):codeP b es p=0:=by
 unfold codeP
 rw [h,hp]
 rfl
theorem qml {b:qd} {path:List Int} (h:dpathB b path=true) {i:Nat} (hi:i<path.length):inPl b (at0 path i)=true:=by
 unfold dpathB at h
 simp only [jg] at h
 exact qay.1 h.2.1 i hi
end
end Go.Fw


namespace Go.Fw
open Go
set_option maxRecDepth 100000
def selL (q:Nat→Bool) (m:Nat):List Int:=((List.range m).filter q).map fun (i:Nat)=>(i:Int)
theorem qsr {q:Nat→Bool} {j:Nat}:(selL q j).length≤j:=by
 unfold selL
 rw [jH]
 exact jS (Ja _ _) (by rw [List.length_range];exact jf _)
def startsL (b:qd):List Int:=selL (fun i=>startB b (gt (places b.Aa) i)) (places b.Aa).length
def startsR (b:qd):List Int × Int:=bif blockB b then (startsL b,0) else ([],1)
theorem qmy {b:qd} (hok:qbn b):Ev (fun n=>qgm n b) (startsR b):=by
 unfold qgm startsR
 exact Ev.chk1 (qh1 hok) fun h=>Ev.bind (qlj hok h) .done
end Go.Fw


namespace Go.Fw
def ordI (x y:Int):Int:=if x<y then -1 else if y<x then 1 else 0
theorem qkL (x y:Int):ordI y x=-(ordI x y):=by unfold ordI;(repeat' split)<;>omega
theorem qqG (x y z:Int):ordI x y=0→ordI x z=ordI y z:=by unfold ordI;(repeat' split)<;>omega
theorem qtd (x y z:Int):ordI x y<0→ordI y z<0→ordI x z<0:=by unfold ordI;(repeat' split)<;>omega
theorem qtT {x y:Int} (h:ordI x y=0):x=y:=by unfold ordI at h;(repeat' split at h)<;>omega
theorem qrt (x:Int):ordI x x=0:=by unfold ordI;(repeat' split)<;>omega
def cmpLk:List Int→List Int→Int
 | [],[]=>0
 | [],_::_=>-1
 | _::_,[]=>1
 | x::xs,y::ys=>if ordI x y=0 then cmpLk xs ys else ordI x y
theorem qhz:∀ xs ys,cmpLk ys xs=-(cmpLk xs ys)
 | [],[]=>rfl
 | [],_::_=>rfl
 | _::_,[]=>rfl
 | x::xs,y::ys=>by
  have a:=qkL x y
  have b:=qhz xs ys
  simp only [cmpLk]
  by_cases e:ordI x y=0
  ·rw [if_pos e,if_pos (by omega)];exact b
  ·rw [if_neg e,if_neg (by omega)];exact a
theorem qmP:∀ xs ys,cmpLk xs ys=0→xs=ys
 | [],[],_=>rfl
 | [],_::_,h=>by simp [cmpLk] at h
 | _::_,[],h=>by simp [cmpLk] at h
 | x::xs,y::ys,h=>by
  simp only [cmpLk] at h
  by_cases e:ordI x y=0
  ·rw [if_pos e] at h
   rw [qtT e,qmP xs ys h]
  ·rw [if_neg e] at h;exact absurd h e
theorem qlo:∀ xs,cmpLk xs xs=0
 | []=>rfl
 | x::xs=>by simp only [cmpLk];rw [if_pos (qrt x)];exact qlo xs
theorem qjt:∀ xs ys zs,cmpLk xs ys<0→cmpLk ys zs<0→cmpLk xs zs<0
 | [],[],_,h,_=>by simp [cmpLk] at h
 | _::_,[],_,h,_=>by simp [cmpLk] at h
 | _,_::_,[],_,h=>by simp [cmpLk] at h
 | [],_::_,_::_,_,_=>by simp [cmpLk]
 | x::xs,y::ys,z::zs,h1,h2=>by
  simp only [cmpLk] at h1 h2 ⊢
  have a1:=qkL x y
  have a2:=qkL y z
  have a3:=qkL x z
  by_cases e1:ordI x y=0
  ·rw [if_pos e1] at h1
   have q1:=qqG x y z e1
   by_cases e2:ordI y z=0
   ·rw [if_pos e2] at h2
    rw [if_pos (by omega)];exact qjt xs ys zs h1 h2
   ·rw [if_neg e2] at h2
    rw [if_neg (by omega)];omega
  ·rw [if_neg e1] at h1
   by_cases e2:ordI y z=0
   ·rw [if_pos e2] at h2
    have q2:=qqG y z x e2
    rw [if_neg (by omega)];omega
   ·rw [if_neg e2] at h2
    have q3:=qtd x y z h1 h2
    rw [if_neg (by omega)];exact q3
def Srt (xs:List (List Int)):Prop:=xs.Pairwise fun x y=>cmpLk x y<0
theorem qqE:Srt []:=List.Pairwise.nil
theorem qqJ {t:List Int}:Srt [t]:=List.pairwise_singleton _ _
theorem ql5 {x:List Int} {xs:List (List Int)} (h:Srt (x::xs)):x ∉ xs:=fun hm=>by
 have:=(List.pairwise_cons.1 h).1 x hm
 rw [qlo] at this;omega
theorem qm9:∀ {xs ys:List (List Int)},Srt xs→Srt ys→(∀ t,t ∈ xs↔t ∈ ys)→xs=ys
 | [],[],_,_,_=>rfl
 | [],y::ys,_,_,h=>absurd ((h y).2 (jq ..)) (by simp)
 | x::xs,[],_,_,h=>absurd ((h x).1 (jq ..)) (by simp)
 | x::xs,y::ys,h1,h2,h=>by
  have p1:=List.pairwise_cons.1 h1
  have p2:=List.pairwise_cons.1 h2
  have e:x=y:=by
   rcases List.mem_cons.1 ((h x).1 (jq ..)) with e|hx
   ·exact e
   rcases List.mem_cons.1 ((h y).2 (jq ..)) with e|hy
   ·exact e.symm
   have a:=p2.1 x hx
   have b:=p1.1 y hy
   have:=qhz x y
   omega
  subst e
  have n1:=ql5 h1
  have n2:=ql5 h2
  rw [qm9 p1.2 p2.2 fun t=>?_]
  constructor
  ·intro ht
   rcases List.mem_cons.1 ((h t).1 (jo _ ht)) with e|ht'
   ·subst e;exact absurd ht n1
   ·exact ht'
  ·intro ht
   rcases List.mem_cons.1 ((h t).2 (jo _ ht)) with e|ht'
   ·subst e;exact absurd ht n2
   ·exact ht'
theorem qqy:∀ {xs ys:List (List Int)},Srt xs→(∀ t,t ∈ xs→t ∈ ys)→xs.length≤ys.length
 | [],_,_,_=>jz _
 | x::xs,ys,h,hs=>by
  have hx:=hs x (jq ..)
  have:=qqy (xs:=xs) (ys:=ys.erase x) (List.pairwise_cons.1 h).2 fun t ht=>(List.mem_erase_of_ne (by intro e;subst e;exact ql5 h ht)).2 (hs t (jo _ ht))
  rw [List.length_erase_of_mem hx] at this
  have:=List.length_pos_of_mem hx
  simp only [Jf]
  omega
def insT:List (List Int)→List Int→List (List Int)
 | [],t=>[t]
 | x::xs,t=>if cmpLk x t=0 then x::xs else if cmpLk x t<0 then x::insT xs t else t::x::xs
theorem qjk:∀ {xs:List (List Int)} {t y:List Int},y ∈ insT xs t↔y=t∨y ∈ xs
 | [],t,y=>by simp [insT]
 | x::xs,t,y=>by
  unfold insT
  by_cases h:cmpLk x t=0
  ·rw [if_pos h]
   have e:=qmP _ _ h
   subst e
   simp
  ·rw [if_neg h]
   by_cases h2:cmpLk x t<0
   ·rw [if_pos h2,jN,qjk,jN]
    constructor
    ·rintro (h|h|h)<;>simp [h]
    ·rintro (h|h|h)<;>simp [h]
   ·rw [if_neg h2];simp
theorem qkp:∀ {xs:List (List Int)} {t:List Int},Srt xs→Srt (insT xs t)
 | [],t,_=>qqJ
 | x::xs,t,h=>by
  have p:=List.pairwise_cons.1 h
  unfold insT
  by_cases h1:cmpLk x t=0
  ·rw [if_pos h1];exact h
  ·rw [if_neg h1]
   by_cases h2:cmpLk x t<0
   ·rw [if_pos h2]
    refine List.pairwise_cons.2 ⟨fun y hy=>?_,qkp p.2⟩
    rcases qjk.1 hy with rfl|hy
    ·exact h2
    ·exact p.1 y hy
   ·rw [if_neg h2]
    have h3:cmpLk t x<0:=by have:=qhz x t;omega
    refine List.pairwise_cons.2 ⟨fun y hy=>?_,h⟩
    rcases List.mem_cons.1 hy with rfl|hy
    ·exact h3
    ·exact qjt _ _ _ h3 (p.1 y hy)
theorem qo9 {xs:List (List Int)} {t:List Int}:(insT xs t).length≤xs.length+1:=by
 induction xs with
 | nil=>simp [insT]
 | cons x xs ih=>unfold insT;split<;>(try split)<;>simp<;>omega
def rankT (xs:List (List Int)) (t:List Int):Nat:=xs.countP fun x=>decide (cmpLk x t<0)
theorem qpz {xs:List (List Int)} {t:List Int}:rankT xs t≤xs.length:=List.countP_le_length ..
theorem qqK:∀ {xs:List (List Int)} {t:List Int},Srt xs→(∀ i x,i<rankT xs t→xs[i]?=some x→cmpLk x t<0)∧∀ i x,rankT xs t≤i→xs[i]?=some x→0≤cmpLk x t
 | [],t,_=>⟨fun i x _ h=>by simp at h,fun i x _ h=>by simp at h⟩
 | y::xs,t,h=>by
  have p:=List.pairwise_cons.1 h
  obtain ⟨h1,h2⟩:=qqK (t:=t) p.2
  by_cases hy:cmpLk y t<0
  ·have e:rankT (y::xs) t=rankT xs t+1:=by unfold rankT;rw [List.countP_cons_of_pos (by simpa using hy)]
   rw [e]
   constructor
   ·intro i x hi hx
    cases i with
    | zero=>simp at hx;subst hx;exact hy
    | succ i=>exact h1 i x (by omega) (by simpa using hx)
   ·intro i x hi hx
    cases i with
    | zero=>omega
    | succ i=>exact h2 i x (by omega) (by simpa using hx)
  ·have hall:∀ x,x ∈ xs→¬ cmpLk x t<0:=fun x hx hlt=>hy (qjt _ _ _ (p.1 x hx) hlt)
   have e:rankT (y::xs) t=0:=by
    unfold rankT
    rw [List.countP_eq_zero]
    intro x hx
    rcases List.mem_cons.1 hx with rfl|hx
    ·simpa using hy
    ·simpa using hall x hx
   rw [e]
   refine ⟨fun i x hi=>by omega,fun i x _ hx=>?_⟩
   rcases List.mem_cons.1 (jw hx) with rfl|hx
   ·omega
   ·have:=hall x hx;omega
theorem qpm:∀ {xs:List (List Int)} {t:List Int},Srt xs→insT xs t=if (xs[rankT xs t]?).map (fun x=>cmpLk x t)=some 0 then xs else xs.take (rankT xs t)++t::xs.drop (rankT xs t)
 | [],t,_=>rfl
 | y::xs,t,h=>by
  have p:=List.pairwise_cons.1 h
  have ih:=qpm (t:=t) p.2
  unfold insT
  by_cases hy:cmpLk y t<0
  ·have e:rankT (y::xs) t=rankT xs t+1:=by unfold rankT;rw [List.countP_cons_of_pos (by simpa using hy)]
   rw [if_neg (by omega),if_pos hy,ih,e]
   simp only [jP,List.take_succ_cons,List.drop_succ_cons,List.cons_append]
   split<;>rfl
  ·have hall:∀ x,x ∈ xs→¬ cmpLk x t<0:=fun x hx hlt=>hy (qjt _ _ _ (p.1 x hx) hlt)
   have e:rankT (y::xs) t=0:=by
    unfold rankT
    rw [List.countP_eq_zero]
    intro x hx
    rcases List.mem_cons.1 hx with rfl|hx
    ·simpa using hy
    ·simpa using hall x hx
   rw [e]
   simp only [List.getElem?_cons_zero,jW,Option.some.injEq,List.take_zero,List.drop_zero,List.nil_append]
   by_cases h0:cmpLk y t=0
   ·rw [if_pos h0,if_pos h0]
   ·rw [if_neg h0,if_neg h0,if_neg hy]
theorem qtl {xs:List (List Int)} {t:List Int} (h:Srt xs) (ht:t ∈ xs):insT xs t=xs :=
 qm9 (qkp h) h fun y=>qjk.trans ⟨fun e=>e.elim (fun e=>e ▸ ht) id,.inr⟩
theorem qtE {xs:List (List Int)} {t:List Int} {k:Nat} (h:Srt xs) (hn:t ∉ xs) (h1:∀ i x,i<k→xs[i]?=some x→cmpLk x t<0) (h2:∀ i x,k≤i→xs[i]?=some x→0<cmpLk x t):insT xs t=xs.take k++t::xs.drop k:=by
 refine qm9 (qkp h) ?_ ?_
 ·refine List.pairwise_append.2 ⟨h.sublist (List.take_sublist ..),List.pairwise_cons.2 ⟨fun y hy=>?_,h.sublist (List.drop_sublist ..)⟩,fun x hx y hy=>?_⟩
  ·obtain ⟨i,hi,rfl⟩:=jM hy
   have:=h2 (k+i) _ (by omega) (by rw [←jA];exact ji hi)
   have:=qhz t ((xs.drop k)[i])
   omega
  ·obtain ⟨i,hi,rfl⟩:=jM hx
   have hik:i<k:=by simp at hi;omega
   have a:=h1 i _ hik (by rw [←List.getElem?_take_of_lt hik];exact ji hi)
   rcases List.mem_cons.1 hy with rfl|hy
   ·exact a
   ·obtain ⟨j,hj,rfl⟩:=jM hy
    have:=h2 (k+j) _ (by omega) (by rw [←jA];exact ji hj)
    have:=qhz t ((xs.drop k)[j])
    exact qjt _ _ _ a (by omega)
 ·intro y
  rw [qjk,List.mem_append,jN]
  have:y ∈ xs↔y ∈ xs.take k∨y ∈ xs.drop k:=by rw [←List.mem_append,List.take_append_drop]
  rw [this]
  constructor
  ·rintro (h|h|h)<;>simp [h]
  ·rintro (h|h|h)<;>simp [h]
end Go.Fw


namespace Go.Fw
section
variable (sc:Nat→List Int) (m:Nat) (st:Nat→Bool) (bg:Nat→List Int) (sp:List Int→Nat→List Int)
inductive TagA:Nat→List Int→Prop
 | start {j:Nat}:st j=true→TagA j (bg j)
 | step {u j:Nat} {t:List Int}:u<m→(j:Int) ∈ sc u→TagA u t→TagA j (sp t j)
def TagR (S R:List Nat) (j:Nat) (t:List Int):Prop:=(j ∈ S∧st j=true∧t=bg j)∨∃ u,u ∈ R∧u<m∧(j:Int) ∈ sc u∧∃ t',TagA sc m st bg sp u t'∧t=sp t' j
end
section
variable {sc:Nat→List Int} {m:Nat} {st:Nat→Bool} {bg:Nat→List Int} {sp:List Int→Nat→List Int}
theorem TagR.sub {S R:List Nat} {j:Nat} {t:List Int} (h:TagR sc m st bg sp S R j t):TagA sc m st bg sp j t:=by
 rcases h with ⟨_,h1,rfl⟩|⟨u,_,hu,h1,t',h2,rfl⟩
 ·exact .start h1
 ·exact .step hu h1 h2
theorem TagR.all {S R:List Nat} {j:Nat} {t:List Int} (hS:j ∈ S) (hR:∀ u,u<m→(j:Int) ∈ sc u→u ∈ R) (h:TagA sc m st bg sp j t):TagR sc m st bg sp S R j t:=by
 cases h with
 | start h1=>exact .inl ⟨hS,h1,rfl⟩
 | step hu h1 h2=>exact .inr ⟨_,hR _ hu h1,hu,h1,_,h2,rfl⟩
structure TagL (f:Nat→List (List Int)) (Q:Nat→List Int→Prop):Prop where
 srt:∀ j,Srt (f j)
 mem:∀ j t,t ∈ f j↔Q j t
theorem TagL.congr {f:Nat→List (List Int)} {Q Q':Nat→List Int→Prop} (h:TagL f Q) (hq:∀ j t,Q j t↔Q' j t):TagL f Q':=⟨h.srt,fun j t=>(h.mem j t).trans (hq j t)⟩
def putF (f:Nat→List (List Int)) (v:Nat) (t:List Int):Nat→List (List Int):=fun j=>if j=v then insT (f v) t else f j
theorem TagL.put {f:Nat→List (List Int)} {Q:Nat→List Int→Prop} (h:TagL f Q) (v:Nat) (t:List Int):TagL (putF f v t) (fun j y=>Q j y∨(j=v∧y=t)) where
 srt j:=by
  unfold putF
  by_cases e:j=v
  ·rw [if_pos e];exact qkp (h.srt v)
  ·rw [if_neg e];exact h.srt j
 mem j y:=by
  unfold putF
  by_cases e:j=v
  ·subst e
   rw [if_pos rfl,qjk,h.mem]
   constructor
   ·rintro (e|e)
    ·exact .inr ⟨rfl,e⟩
    ·exact .inl e
   ·rintro (e|⟨_,e⟩)
    ·exact .inr e
    ·exact .inl e
  ·rw [if_neg e,h.mem]
   exact ⟨.inl,fun x=>x.elim id fun y=>absurd y.1 e⟩
def TagEnd (sc:Nat→List Int) (m:Nat) (st:Nat→Bool) (bg:Nat→List Int) (sp:List Int→Nat→List Int) (r:Option (Nat→List (List Int))):Prop :=
 match r with
 | some f=>(∀ j,j<m→Srt (f j)∧(f j).length≤64∧∀ t,t ∈ f j↔TagA sc m st bg sp j t)
 | none=>∃ j,j<m∧∃ xs,Srt xs∧64<xs.length∧∀ t,t ∈ xs→TagA sc m st bg sp j t
theorem qmk {r1 r2:Option (Nat→List (List Int))} (h1:TagEnd sc m st bg sp r1) (h2:TagEnd sc m st bg sp r2):(r1=none∧r2=none)∨∃ f g,r1=some f∧r2=some g∧∀ j,j<m→f j=g j:=by
 have no:∀ {f:Nat→List (List Int)},TagEnd sc m st bg sp (some f)→TagEnd sc m st bg sp none→False:=fun {f} h1 h2=>by
  obtain ⟨j,hj,xs,hs,hl,hm⟩:=h2
  obtain ⟨_,hl',hm'⟩:=h1 j hj
  have:=qqy hs fun t ht=>(hm' t).2 (hm t ht)
  omega
 cases r1 with
 | none =>
  cases r2 with
  | none=>exact .inl ⟨rfl,rfl⟩
  | some g=>exact (no h2 h1).elim
 | some f =>
  cases r2 with
  | none=>exact (no h1 h2).elim
  | some g=>exact .inr ⟨f,g,rfl,rfl,fun j hj=>qm9 (h1 j hj).1 (h2 j hj).1 fun t=>((h1 j hj).2.2 t).trans ((h2 j hj).2.2 t).symm⟩
end
end Go.Fw


namespace Go.Fw
open Go
set_option maxRecDepth 100000
theorem qob {n:Nat} {x y:Int}:qfI n x y=some (ordI x y):=by
 unfold qfI qgD ordI
 simp only [bne_self_eq_false,je,cond_false]
 by_cases h1:x<y
 ·simp [h1]
 ·by_cases h2:y<x<;>simp [h1,h2]
theorem qpE {xs ys:List Int} (hx:xs.length≤1000000):Ev (fun n=>qc8 n xs ys) (cmpLk xs ys):=by
 have main:∀ d i,i+d=xs.length→i≤ys.length→∃ o,Ev (fun n=>qaO xs ys n (i:Int)) o ∧
   match o with|.ret r=>r=cmpLk (xs.drop i) (ys.drop i)|.nxt _=>cmpLk (xs.drop i) (ys.drop i)=if xs.length<ys.length then -1 else 0:=by
  intro d
  induction d with
  | zero =>
   intro i hi hy
   obtain rfl:i=xs.length:=by omega
   refine ⟨.nxt (xs.length:Int),Ev.succ ?_,?_⟩
   ·simp only [qaO,qj (jf _),cond_false];exact .done
   ·simp only [List.drop_length]
    have hl:(ys.drop xs.length).length=ys.length-xs.length:=List.length_drop
    cases h:ys.drop xs.length with
    | nil=>rw [h] at hl;simp at hl;rw [if_neg (by omega)];rfl
    | cons a l=>rw [h] at hl;simp at hl;rw [if_pos (by omega)];rfl
  | succ d ih =>
   intro i hi hy
   have hil:i<xs.length:=by omega
   have ex:xs.drop i=xs[i]::xs.drop (i+1):=jE hil
   by_cases hj:i<ys.length
   ·have ey:ys.drop i=ys[i]::ys.drop (i+1):=jE hj
    by_cases h0:ordI xs[i] ys[i]=0
    ·obtain ⟨o,ho,hm⟩:=ih (i+1) (by omega) (by omega)
     refine ⟨o,Ev.succ ?_,?_⟩
     ·simp only [qaO,qi hil,cond_true,qZ hil,je,wS i]
      refine Ev.ff (decide_eq_false (by omega)) (Ev.bindN (qZ hj) (Ev.bind (.now (qob (n:=0))) (Ev.ff (by rw [h0];rfl) ho)))
     ·rw [ex,ey]
      simp only [cmpLk,h0,if_true]
      exact hm
    ·refine ⟨.ret (ordI xs[i] ys[i]),Ev.succ ?_,?_⟩
     ·simp only [qaO,qi hil,cond_true,qZ hil,je]
      exact Ev.ff (decide_eq_false (by omega)) (Ev.bindN (qZ hj) (Ev.bind (.now (qob (n:=0))) (Ev.tt (by simpa using h0) .done)))
     ·rw [ex,ey]
      simp only [cmpLk,h0,if_false]
   ·refine ⟨.ret 1,Ev.succ ?_,?_⟩
    ·simp only [qaO,qi hil,cond_true,qZ hil,je]
     exact Ev.tt (decide_eq_true (by omega)) .done
    ·rw [ex,show ys.drop i=[] from List.drop_of_length_le (by omega)]
     rfl
 obtain ⟨o,ho,hm⟩:=main xs.length 0 (by omega) (jz _)
 unfold qc8
 refine Ev.bind ho ?_
 cases o with
 | ret r=>simp only [List.drop_zero] at hm;subst hm;exact .done
 | nxt i =>
  simp only [List.drop_zero] at hm
  rw [hm]
  by_cases hl:xs.length<ys.length
  ·rw [if_pos hl];exact Ev.tt (decide_eq_true (by omega)) .done
  ·rw [if_neg hl];exact Ev.ff (decide_eq_false (by omega)) .done
theorem qr8 {m:Nat} (h:m≤4000000):shrS .u64 (IntKind.wrap .u64 (W64 (m:Int))) 1=some ((m / 2:Nat):Int):=by
 have e1:IntKind.wrap .u64 (m:Int)=(m:Int):=by
  show ((m:Int) % (2 ^ 64:Int))=m
  exact Int.emod_eq_of_lt (by omega) (by omega)
 rw [qaz (by omega) (by omega),e1]
 unfold shrS
 rw [if_pos (by decide)]
 congr 1
 show (m:Int).fdiv 2=_
 rw [Int.fdiv_eq_ediv_of_nonneg _ (by decide)]
 omega
theorem qtK {xs:List (List Int)} {t:List Int} (hs:Srt xs) (hl:xs.length≤1000000) (hx:∀ x,x ∈ xs→x.length≤1000000) :
  Ev (fun n=>qaj n xs t) ((rankT xs t:Int),decide ((xs[rankT xs t]?).map (fun x=>cmpLk x t)=some 0)):=by
 obtain ⟨r1,r2⟩:=qqK (t:=t) hs
 have hr:=qpz (xs:=xs) (t:=t)
 generalize hp:rankT xs t=p at *
 have main:∀ d i j,j-i≤d→i≤p→p≤j→j≤xs.length→Ev (fun n=>qx xs t n (i:Int) (j:Int)) ((p:Int),(p:Int)):=by
  intro d
  induction d with
  | zero =>
   intro i j hd hi hj hl
   refine Ev.succ ?_
   simp only [qx,qj (show j≤i by omega),cond_false]
   rw [show i=p by omega,show j=p by omega]
   exact .done
  | succ d ih =>
   intro i j hd hi hj hjl
   refine Ev.succ ?_
   by_cases hij:i<j
   ·have hm:(i+j) / 2<xs.length:=by omega
    simp only [qx,qi hij,cond_true,←Int.natCast_add,qr8 (show i+j≤4000000 by omega),je,qaz (x:=(((i+j) / 2:Nat):Int)) (by omega) (by omega),qZ hm,qix (show (i+j) / 2<9223372036854775807 by omega)]
    refine Ev.bind (qpE (hx _ (jp hm))) ?_
    by_cases hc:cmpLk xs[(i+j) / 2] t<0
    ·refine Ev.tt (by simpa using hc) (ih _ _ (by omega) ?_ hj hjl)
     refine Nat.lt_of_not_le fun hg=>?_
     have:=r2 _ _ hg (ji hm)
     omega
    ·refine Ev.ff (by simpa using hc) (ih _ _ (by omega) hi ?_ (by omega))
     refine Nat.le_of_not_lt fun hg=>hc (r1 _ _ hg (ji hm))
   ·simp only [qx,qj (show j≤i by omega),cond_false]
    rw [show i=p by omega,show j=p by omega]
    exact .done
 unfold qaj
 refine Ev.bind (main xs.length 0 xs.length (by omega) (by omega) (by omega) (jf _)) ?_
 by_cases hpl:p<xs.length
 ·simp only [qi hpl,cond_true,qZ hpl,je,ji hpl,jW,Option.some.injEq]
  refine Ev.bind (qpE (hx _ (jp hpl))) (Ev.now ?_)
  congr 2
 ·simp only [qj (show xs.length≤p by omega),cond_false,List.getElem?_eq_none (show xs.length≤p by omega),Option.map_none]
  exact .done
theorem qqu {xs:List (List Int)} {t:List Int} {k:Nat} (hk:k≤xs.length) (hl:xs.length≤1000000):insS xs (k:Int) t=some (xs.take k++t::xs.drop k):=by
 unfold insS
 rw [if_pos ⟨by omega,by omega,hl⟩,jC]
theorem qnZ {xs:List (List Int)} {t:List Int} (hs:Srt xs) (hl:xs.length≤1000000) (hx:∀ x,x ∈ xs→x.length≤1000000):Ev (fun n=>qgS n xs t) (insT xs t):=by
 unfold qgS
 refine Ev.bind (qtK hs hl hx) ?_
 rw [qpm hs]
 by_cases hc:(xs[rankT xs t]?).map (fun x=>cmpLk x t)=some 0
 ·rw [if_pos hc]
  exact Ev.tt (decide_eq_true hc) .done
 ·rw [if_neg hc]
  exact Ev.ff (decide_eq_false hc) (Ev.now (qqu qpz hl))
theorem qqv {xs ys:List Int} (hx:xs.length≤1000000) (hxy:xs.length=ys.length):Ev (fun n=>qfA n xs ys) (cmpLk xs ys):=by
 have main:∀ d i,i+d=xs.length→∃ o,Ev (fun n=>qbG xs ys n (i:Int)) o ∧
   match o with|.ret r=>r=cmpLk (xs.drop i) (ys.drop i)|.nxt _=>cmpLk (xs.drop i) (ys.drop i)=0:=by
  intro d
  induction d with
  | zero =>
   intro i hi
   obtain rfl:i=xs.length:=by omega
   refine ⟨.nxt (xs.length:Int),Ev.succ ?_,?_⟩
   ·simp only [qbG,qj (jf _),cond_false];exact .done
   ·rw [List.drop_length,show ys.drop xs.length=[] from List.drop_of_length_le (by omega)];rfl
  | succ d ih =>
   intro i hi
   have hil:i<xs.length:=by omega
   have hj:i<ys.length:=by omega
   have ex:xs.drop i=xs[i]::xs.drop (i+1):=jE hil
   have ey:ys.drop i=ys[i]::ys.drop (i+1):=jE hj
   by_cases h1:xs[i]<ys[i]
   ·refine ⟨.ret (-1),Ev.succ ?_,?_⟩
    ·simp only [qbG,qi hil,cond_true,qZ hil,qZ hj,je]
     exact Ev.tt (decide_eq_true h1) .done
    ·rw [ex,ey];simp [cmpLk,ordI,h1]
   ·by_cases h2:ys[i]<xs[i]
    ·refine ⟨.ret 1,Ev.succ ?_,?_⟩
     ·simp only [qbG,qi hil,cond_true,qZ hil,qZ hj,je]
      exact Ev.ff (decide_eq_false h1) (Ev.tt (decide_eq_true h2) .done)
     ·rw [ex,ey];simp [cmpLk,ordI,h1,h2]
    ·obtain ⟨o,ho,hm⟩:=ih (i+1) (by omega)
     refine ⟨o,Ev.succ ?_,?_⟩
     ·simp only [qbG,qi hil,cond_true,qZ hil,qZ hj,je,wS i]
      exact Ev.ff (decide_eq_false h1) (Ev.ff (decide_eq_false h2) ho)
     ·rw [ex,ey]
      simp only [cmpLk,ordI,h1,h2,if_false,if_true]
      exact hm
 obtain ⟨o,ho,hm⟩:=main xs.length 0 (by omega)
 unfold qfA
 refine Ev.bind ho ?_
 cases o with
 | ret r=>simp only [List.drop_zero] at hm;subst hm;exact .done
 | nxt i=>simp only [List.drop_zero] at hm;rw [hm];exact .done
theorem qtH {xs:List (List Int)} {t:List Int} {m:Nat} (hs:Srt xs) (hl:xs.length≤1000000) (hm:m≤1000000) (hx:∀ x,x ∈ xs→x.length=m) (ht:t.length=m):Ev (fun n=>qiR n xs t) (insT xs t):=by
 have hL1:∀ d i,i+d=xs.length→(∀ x,x ∈ xs.take i→x ≠ t)→∃ o,Ev (fun n=>qd2 xs t n (i:Int)) o∧match o with|.ret r=>r=xs∧t ∈ xs|.nxt _=>t ∉ xs:=by
  intro d
  induction d with
  | zero =>
   intro i hi hn
   obtain rfl:i=xs.length:=by omega
   refine ⟨.nxt (xs.length:Int),Ev.succ ?_,?_⟩
   ·simp only [qd2,qj (jf _),cond_false];exact .done
   ·rw [jB] at hn
    exact fun hm=>hn t hm rfl
  | succ d ih =>
   intro i hi hn
   have hil:i<xs.length:=by omega
   have hc:=qqv (xs:=xs[i]) (ys:=t) (by rw [hx _ (jp hil)];exact hm) (by rw [hx _ (jp hil),ht])
   by_cases h0:cmpLk xs[i] t=0
   ·refine ⟨.ret xs,Ev.succ ?_,rfl,(qmP _ _ h0) ▸ jp hil⟩
    simp only [qd2,qi hil,cond_true,qZ hil,je]
    exact Ev.bind hc (Ev.tt (by rw [h0];rfl) .done)
   ·obtain ⟨o,ho,hq⟩:=ih (i+1) (by omega) fun x hx'=>by
     rw [jr hil] at hx'
     rcases List.mem_append.1 hx' with hx'|hx'
     ·exact hn x hx'
     ·rw [List.mem_singleton.1 hx']
      intro e
      rw [e,qlo] at h0
      exact h0 rfl
    refine ⟨o,Ev.succ ?_,hq⟩
    simp only [qd2,qi hil,cond_true,qZ hil,je,wS i]
    exact Ev.bind hc (Ev.ff (by simpa using h0) ho)
 obtain ⟨o,ho,hq⟩:=hL1 xs.length 0 (by omega) (by simp)
 unfold qiR
 refine Ev.bind ho ?_
 cases o with
 | ret r =>
  obtain ⟨rfl,hmem⟩:=hq
  rw [qtl hs hmem]
  exact .done
 | nxt i =>
  have hL2:∀ a,a≤xs.length→(∀ j x,a≤j→xs[j]?=some x→0<cmpLk x t)→∃ k,k≤xs.length∧Ev (fun n=>qd6 xs t n (a:Int)) (k:Int)∧(∀ j x,k≤j→xs[j]?=some x→0<cmpLk x t)∧(∀ j x,j<k→xs[j]?=some x→cmpLk x t<0):=by
   intro a
   induction a with
   | zero =>
    intro _ hg
    refine ⟨0,jz _,Ev.succ ?_,hg,fun j x hj=>by omega⟩
    simp only [qd6]
    exact Ev.ff (by simp) .done
   | succ a ih =>
    intro ha hg
    have hal:a<xs.length:=by omega
    have hc:=qqv (xs:=t) (ys:=xs[a]) (by omega) (by rw [hx _ (jp hal),ht])
    have hW:W64 (((a+1:Nat):Int)-1)=(a:Int):=by rw [qaz (by omega) (by omega)];omega
    have hne:cmpLk xs[a] t ≠ 0:=fun e=>hq ((qmP _ _ e) ▸ jp hal)
    have han:=qhz xs[a] t
    by_cases h0:cmpLk t xs[a]<0
    ·obtain ⟨k,hk,he,g1,g2⟩:=ih (by omega) fun j x hj hx'=>by
      rcases Nat.eq_or_lt_of_le hj with e|e
      ·subst e
       rw [ji hal] at hx'
       obtain rfl:=Option.some.inj hx'
       omega
      ·exact hg j x e hx'
     refine ⟨k,hk,Ev.succ ?_,g1,g2⟩
     simp only [qd6,hW,qZ hal,je]
     exact Ev.tt (decide_eq_true (by omega)) (Ev.bind hc (Ev.tt (decide_eq_true h0) he))
    ·refine ⟨a+1,ha,Ev.succ ?_,hg,fun j x hj hx'=>?_⟩
     ·simp only [qd6,hW,qZ hal,je]
      exact Ev.tt (decide_eq_true (by omega)) (Ev.bind hc (Ev.ff (decide_eq_false h0) .done))
     ·rcases Nat.eq_or_lt_of_le (Nat.le_of_lt_succ hj) with e|e
      ·subst e
       rw [ji hal] at hx'
       obtain rfl:=Option.some.inj hx'
       omega
      ·have hjl:j<xs.length:=by omega
       rw [ji hjl] at hx'
       obtain rfl:=Option.some.inj hx'
       exact qjt _ _ _ (List.pairwise_iff_getElem.1 hs j a hjl hal e) (by omega)
  obtain ⟨k,hk,he,g1,g2⟩:=hL2 xs.length (jf _) fun j x hj hx'=>by
   have:=(List.getElem?_eq_some_iff.1 hx').1;omega
  rw [qtE hs hq g2 g1]
  exact Ev.bind he (Ev.now (qqu hk hl))
end Go.Fw


namespace Go.Fw
open Go
set_option maxRecDepth 100000
def vecT (f:Nat→List (List Int)) (m:Nat):List (List (List Int)):=(List.range m).map f
theorem qrN {f:Nat→List (List Int)} {m:Nat}:(vecT f m).length=m:=by simp [vecT]
theorem qfi {f:Nat→List (List Int)} {m k:Nat} (h:k<m):idx (vecT f m) (k:Int)=some (f k):=by
 rw [qZ (by rw [qrN];exact h)]
 simp [vecT]
theorem qjK {f g:Nat→List (List Int)} {m:Nat} (h:∀ k,k<m→f k=g k):vecT f m=vecT g m:=by
 unfold vecT
 exact List.map_congr_left (fun k hk=>h k (List.mem_range.1 hk))
theorem qoa {m:Nat} (h:m≤2147483648):mkS (m:Int) ([]:List (List Int))=some (vecT (fun _=>[]) m):=by
 unfold mkS big
 rw [if_pos ⟨by omega,by omega⟩]
 congr 1
 refine Jh (by simp [vecT]) (fun k h1 h2=>?_)
 simp [vecT]
theorem qnk {f:Nat→List (List Int)} {m k:Nat} {v:List (List Int)}:setS (vecT f m) (k:Int) v=vecT (fun i=>if i=k then v else f i) m:=by
 unfold setS
 refine Jh (by simp [vecT]) (fun i h1 h2=>?_)
 rw [List.getElem_set]
 simp only [vecT,List.getElem_map,List.getElem_range,jC]
 by_cases e:k=i
 ·rw [if_pos e,if_pos e.symm]
 ·rw [if_neg e,if_neg (fun h=>e h.symm)]
def bgT (es:List qa) (j:Nat):List Int:=startTs es (j:Int)
def spT (es:List qa) (t:List Int) (j:Nat):List Int:=stepTs es t (j:Int)
def stT (b:qd) (j:Nat):Bool:=startB b (gt (places b.Aa) j)
abbrev TgA (b:qd) (es:List qa):Nat→List Int→Prop:=TagA (succL b) (npl b) (stT b) (bgT es) (spT es)
abbrev TgR (b:qd) (es:List qa):List Nat→List Nat→Nat→List Int→Prop:=TagR (succL b) (npl b) (stT b) (bgT es) (spT es)
abbrev TgE (b:qd) (es:List qa):Option (Nat→List (List Int))→Prop:=TagEnd (succL b) (npl b) (stT b) (bgT es) (spT es)
theorem qjL {b:qd} {es:List qa} {j:Nat} {t:List Int} (h:TgA b es j t):t.length=es.length:=by
 cases h with
 | start _=>exact qpH
 | step _ _ _=>exact qjT
def foldT (es:List qa) (v:Nat) (l acc:List (List Int)):List (List Int):=l.foldl (fun acc t=>insT acc (spT es t v)) acc
theorem qlA {es:List qa} {v:Nat}:∀ {l acc:List (List Int)},Srt acc→Srt (foldT es v l acc)
 | [],_,h=>h
 | t::l,acc,h=>qlA (l:=l) (acc:=insT acc (spT es t v)) (qkp h)
theorem qlQ {es:List qa} {v:Nat}:∀ {l acc:List (List Int)} {y:List Int},y ∈ foldT es v l acc↔y ∈ acc∨∃ t,t ∈ l∧y=spT es t v
 | [],acc,y=>by simp [foldT]
 | t::l,acc,y=>by
  show y ∈ foldT es v l (insT acc (spT es t v))↔_
  rw [qlQ,qjk]
  constructor
  ·rintro ((h|h)|⟨t',h,e⟩)
   ·exact .inr ⟨t,jq ..,h⟩
   ·exact .inl h
   ·exact .inr ⟨t',jo _ h,e⟩
  ·rintro (h|⟨t',h,e⟩)
   ·exact .inl (.inr h)
   ·rcases List.mem_cons.1 h with rfl|h
    ·exact .inl (.inl e)
    ·exact .inr ⟨t',h,e⟩
theorem qlO {es:List qa} {v:Nat}:∀ {l acc:List (List Int)},(foldT es v l acc).length≤acc.length+l.length
 | [],acc=>jf _
 | t::l,acc=>by
  have h1:=qlO (es:=es) (v:=v) (l:=l) (acc:=insT acc (spT es t v))
  have h2:=qo9 (xs:=acc) (t:=spT es t v)
  show (foldT es v l (insT acc (spT es t v))).length≤_
  simp only [Jf]
  omega
theorem qrl {es:List qa} {v:Nat} {l acc:List (List Int)} {s:Nat} (hs:s<l.length):insT (foldT es v (l.take s) acc) (spT es l[s] v)=foldT es v (l.take (s+1)) acc:=by
 rw [jr hs]
 unfold foldT
 rw [List.foldl_append]
 rfl
def inF (es:List qa) (f:Nat→List (List Int)) (v:Nat) (l:List (List Int)):Nat→List (List Int):=fun j=>if j=v then foldT es v l (f v) else f j
theorem qkB {es:List qa} {f:Nat→List (List Int)} {v:Nat} {l:List (List Int)}:inF es f v l v=foldT es v l (f v):=if_pos rfl
theorem qkF {es:List qa} {f:Nat→List (List Int)} {v j:Nat} {l:List (List Int)} (h:j ≠ v):inF es f v l j=f j:=if_neg h
theorem qqP {es:List qa} {f:Nat→List (List Int)} {Q:Nat→List Int→Prop} (h:TagL f Q) (v:Nat) (l:List (List Int)):TagL (inF es f v l) (fun j y=>Q j y∨(j=v∧∃ t,t ∈ l∧y=spT es t v)) where
 srt j:=by
  by_cases e:j=v
  ·subst e;rw [qkB];exact qlA (h.srt j)
  ·rw [qkF e];exact h.srt j
 mem j y:=by
  by_cases e:j=v
  ·subst e
   rw [qkB,qlQ,h.mem]
   exact ⟨fun x=>x.imp id fun x=>⟨rfl,x⟩,fun x=>x.imp id fun x=>x.2⟩
  ·rw [qkF e,h.mem]
   exact ⟨.inl,fun x=>x.elim id fun x=>absurd x.1 e⟩
theorem qpn {es:List qa} {f:Nat→List (List Int)} {v m:Nat} {l:List (List Int)}:vecT (inF es f v (l.take 0)) m=vecT f m:=by
 refine qjK fun k _=>?_
 unfold inF
 rw [List.take_zero]
 by_cases e:k=v
 ·rw [if_pos e,e];rfl
 ·rw [if_neg e]
theorem qqS {es:List qa} {f:Nat→List (List Int)} {v m s:Nat} {l:List (List Int)} (hs:s<l.length):setS (vecT (inF es f v (l.take s)) m) (v:Int) (insT (foldT es v (l.take s) (f v)) (spT es l[s] v))=vecT (inF es f v (l.take (s+1))) m:=by
 rw [qnk,qrl hs]
 refine qjK fun k _=>?_
 unfold inF
 by_cases e:k=v
 ·rw [if_pos e,if_pos e]
 ·rw [if_neg e,if_neg e,if_neg e]
theorem qq3 {es:List qa} {f:Nat→List (List Int)} {u v m:Nat} (hes:okL qG es) (hel:es.length≤6) (hv:v<m) (hne:u ≠ v) (hs:Srt (f v)) (hu:∀ t,t ∈ f u→t.length=es.length) (hvl:∀ t,t ∈ f v→t.length=es.length) (hl:(f v).length+(f u).length≤1000000) :
  Ev (fun n=>qbs es (u:Int) (v:Int) (f u) n (vecT f m) 0) (vecT (inF es f v (f u)) m,((f u).length:Int)):=by
 have:=loopF (Lf:=qbs es (u:Int) (v:Int) (f u)) (S:=fun s=>vecT (inF es f v ((f u).take s)) m) (len:=(f u).length) (fin:=(vecT (inF es f v (f u)) m,((f u).length:Int))) (fun n=>?_) (fun s hs' X hX=>?_)
 ·rwa [qpn] at this
 ·simp only [qbs,qj (jf _),cond_false,jB]
 ·have hlen:=qlO (es:=es) (v:=v) (l:=(f u).take s) (acc:=f v)
  simp only [jZ] at hlen
  simp only [qbs,qi hs',cond_true,qZ hs',je,wS s]
  refine Ev.bind (qpg hes (hu _ (jp hs'))) (Ev.bindN (qfi hv) ?_)
  show Ev _ X
  rw [qkB]
  refine Ev.bind (qnZ (qlA hs) (by omega) fun x hx=>?_) (Ev.ff (decide_eq_false (by simpa using hne)) ?_)
  ·rcases qlQ.1 hx with hx|⟨t',_,rfl⟩
   ·have:=hvl x hx;omega
   ·have:(spT es t' v).length=es.length:=qjT;omega
  ·have e:=qqS (es:=es) (f:=f) (v:=v) (m:=m) hs'
   show Ev (fun n=>qbs es (u:Int) (v:Int) (f u) n (setS (vecT (inF es f v ((f u).take s)) m) (v:Int) (insT (foldT es v ((f u).take s) (f v)) (spT es (f u)[s] v))) ((s+1:Nat):Int)) X
   rw [e]
   exact hX
theorem qpV {es:List qa} {f:Nat→List (List Int)} {u v m:Nat} (hes:okL qG es) (hel:es.length≤6) (hum:u<m) (hv:v<m) (hne:u ≠ v) (hs:Srt (f v)) (hu:∀ t,t ∈ f u→t.length=es.length) (hvl:∀ t,t ∈ f v→t.length=es.length) (hl:(f v).length+(f u).length≤1000000) :
  Ev (fun n=>qb0 es (u:Int) (v:Int) n (vecT f m) 0) (vecT (inF es f v (f u)) m,((f u).length:Int)):=by
 have:=loopF (Lf:=qb0 es (u:Int) (v:Int)) (S:=fun s=>vecT (inF es f v ((f u).take s)) m) (len:=(f u).length) (fin:=(vecT (inF es f v (f u)) m,((f u).length:Int))) (fun n=>?_) (fun s hs' X hX=>?_)
 ·rwa [qpn] at this
 ·simp only [qb0,qfi hum,je,qkF hne,qj (jf _),cond_false,jB]
 ·have hlen:=qlO (es:=es) (v:=v) (l:=(f u).take s) (acc:=f v)
  simp only [jZ] at hlen
  simp only [qb0,qfi hum,qfi hv,je,qkF hne,qi hs',cond_true,qZ hs',wS s]
  refine Ev.bind (qpv hes (hu _ (jp hs'))) ?_
  rw [qkB]
  refine Ev.bind (qtH (m:=es.length) (qlA hs) (by omega) (by omega) (fun x hx=>?_) qjT) ?_
  ·rcases qlQ.1 hx with hx|⟨t',_,rfl⟩
   ·exact hvl x hx
   ·exact qjT
  ·have e:=qqS (es:=es) (f:=f) (v:=v) (m:=m) hs'
   show Ev (fun n=>qb0 es (u:Int) (v:Int) n (setS (vecT (inF es f v ((f u).take s)) m) (v:Int) (insT (foldT es v ((f u).take s) (f v)) (spT es (f u)[s] v))) ((s+1:Nat):Int)) X
   rw [e]
   exact hX
def QK (b:qd) (es:List qa) (S R:List Nat) (u k:Nat) (j:Nat) (t:List Int):Prop:=TgR b es S R j t∨∃ i,i<k∧(succL b u)[i]?=some (j:Int)∧∃ t',TgA b es u t'∧t=spT es t' j
theorem QK.zero {b:qd} {es:List qa} {S R:List Nat} {u j:Nat} {t:List Int}:TgR b es S R j t↔QK b es S R u 0 j t:=⟨.inl,fun h=>h.elim id fun ⟨i,hi,_⟩=>by omega⟩
theorem QK.succ {b:qd} {es:List qa} {S R:List Nat} {u k v j:Nat} {t:List Int} {l:List (List Int)} (hv:(succL b u)[k]?=some (v:Int)) (hl:∀ t,t ∈ l↔TgA b es u t) :
  (QK b es S R u k j t∨(j=v∧∃ t',t' ∈ l∧t=spT es t' v))↔QK b es S R u (k+1) j t:=by
 constructor
 ·rintro ((h|⟨i,hi,h1,h2⟩)|⟨rfl,t',h1,h2⟩)
  ·exact .inl h
  ·exact .inr ⟨i,by omega,h1,h2⟩
  ·exact .inr ⟨k,by omega,hv,t',(hl t').1 h1,h2⟩
 ·rintro (h|⟨i,hi,h1,t',h2,h3⟩)
  ·exact .inl (.inl h)
  ·by_cases e:i=k
   ·subst e
    rw [hv] at h1
    have e2:v=j:=by have:=Option.some.inj h1;omega
    subst e2
    exact .inr ⟨rfl,t',(hl t').2 h2,h3⟩
   ·exact .inl (.inr ⟨i,by omega,h1,t',h2,h3⟩)
theorem QK.full {b:qd} {es:List qa} {S R:List Nat} {u j:Nat} {t:List Int} (hu:u<npl b):QK b es S R u (succL b u).length j t↔TgR b es S (R++[u]) j t:=by
 constructor
 ·rintro ((h|⟨x,h1,h2,h3,h4⟩)|⟨i,_,h1,t',h2,h3⟩)
  ·exact .inl h
  ·exact .inr ⟨x,jL _ h1,h2,h3,h4⟩
  ·exact .inr ⟨u,jR _ (List.mem_singleton.2 rfl),hu,jw h1,t',h2,h3⟩
 ·rintro (h|⟨x,h1,h2,h3,t',h4,h5⟩)
  ·exact .inl (.inl h)
  ·rcases List.mem_append.1 h1 with h1|h1
   ·exact .inl (.inr ⟨x,h1,h2,h3,t',h4,h5⟩)
   ·rw [List.mem_singleton.1 h1] at h3 h4
    obtain ⟨i,hi⟩:=List.mem_iff_getElem?.1 h3
    exact .inr ⟨i,(List.getElem?_eq_some_iff.1 hi).1,hi,t',h4,h5⟩
theorem QK.sub {b:qd} {es:List qa} {S R:List Nat} {u k j:Nat} {t:List Int} (hu:u<npl b) (h:QK b es S R u k j t):TgA b es j t:=by
 rcases h with h|⟨i,_,h1,t',h2,rfl⟩
 ·exact h.sub
 ·exact .step hu (jw h1) h2
theorem qsS {b:qd} {es:List qa} {f:Nat→List (List Int)} {S R:List Nat} {u c:Nat} (h:blockB b=true) (hes:okL qG es) (hel:es.length≤6) (hu:u<npl b) (hn:(succL b u).count (u:Int)=0)
  (hf:TagL f (TgR b es S R)) (hfu:∀ t,t ∈ f u↔TgA b es u t) (h64:(f u).length≤64) (hc:∀ j,(f j).length≤c) (hcb:c≤900000) :
  ∃ g,TagL g (TgR b es S (R++[u]))∧(∀ j,(g j).length≤c+6000)∧Ev (fun n=>qbq es (u:Int) (succL b u) n (vecT f (npl b)) 0) (vecT g (npl b),((succL b u).length:Int)):=by
 have hS:=qeZ h (j:=u)
 have hun:(u:Int) ∉ succL b u:=List.count_eq_zero.1 hn
 obtain ⟨t,⟨g,rfl,g1,g2,g3⟩,he⟩:=loopE (Lf:=qbq es (u:Int) (succL b u)) (fin:=fun t=>(t,((succL b u).length:Int))) (len:=(succL b u).length)
  (fun k t=>∃ g,t=vecT g (npl b)∧TagL g (QK b es S R u k)∧g u=f u∧∀ j,(g j).length≤c+64*k)
  (fun n t=>by simp only [qbq,qj (jf _),cond_false])
  (fun k t hk ⟨g,e,g1,g2,g3⟩=>by
   subst e
   obtain ⟨v,hv,e1,e2⟩:=(qfW h hu).at hk
   have hne:u ≠ v:=fun e=>hun (by have:=jw e2;rwa [←e] at this)
   have hq:=qqP (es:=es) g1 v (g u)
   rw [g2] at hq
   refine ⟨vecT (inF es g v (g u)) (npl b),⟨inF es g v (g u),rfl,?_,?_,fun j=>?_⟩,fun X hX=>?_⟩
   ·rw [g2];exact hq.congr fun j t=>QK.succ e2 hfu
   ·rw [qkF hne,g2]
   ·by_cases e:j=v
    ·subst e
     rw [qkB]
     have:=qlO (es:=es) (v:=j) (l:=g u) (acc:=g j)
     have:=g3 j
     rw [g2] at *
     omega
    ·rw [qkF e];have:=g3 j;omega
   ·simp only [qbq,qi hk,cond_true,e1,je,qfi hu,wS k]
    refine Ev.bind (qq3 hes hel hv hne (g1.srt v) (fun t ht=>?_) (fun t ht=>?_) ?_) hX
    ·rw [g2] at ht;exact qjL ((hfu t).1 ht)
    ·exact qjL (((g1.mem v t).1 ht).sub hu)
    ·have:=g3 v;rw [g2];omega)
  0 (jz _) (vecT f (npl b)) ⟨f,rfl,hf.congr fun j t=>QK.zero,rfl,fun j=>by have:=hc j;omega⟩
 exact ⟨g,g1.congr fun j t=>QK.full hu,fun j=>by have:=g3 j;omega,he⟩
theorem qsp {b:qd} {V:Tview} {es:List qa} (h:blockB b=true) (hV:V.Be=b) (hP:V.places=places b.Aa) (hes:okL qG es) (hel:es.length≤6) {out:List Nat} (ht:Topo (succL b) (npl b) out) (hfull:∀ j,j<npl b→j ∈ out) :
  EvQ (fun n=>qaP (some V) V es (ints out) n (vecT (fun _=>[]) (npl b)) 0) fun r=>(∃ g i,r=.nxt (vecT g (npl b),i)∧TgE b es (some g))∨(r=.ret ([],3)∧TgE b es none):=by
 have hl:npl b≤78:=qM (qw (qE h))
 have hlen:=ht.len
 refine loopR (Lf:=qaP (some V) V es (ints out)) (len:=out.length)
  (fun i t=>∃ f,t=vecT f (npl b)∧TagL f (TgR b es (out.take i) (out.take i))∧(∀ j,(f j).length≤i*6001)∧∀ j,j ∈ out.take i→∃ xs,Srt xs∧xs.length≤64∧∀ t,t ∈ xs↔TgA b es j t) _
  (fun t ⟨f,e,f1,f2,f3⟩=>?_) (fun i t hi ⟨f,e,f1,f2,f3⟩=>?_) 0 (jz _) _ ⟨fun _=>[],rfl,⟨fun _=>qqE,fun j t=>?_⟩,fun _=>jz _,fun j hj=>by simp at hj⟩
 ·subst e
  simp only [qaP,qd3,qj (jf _),cond_false]
  refine EvQ.done (.inl ⟨f,_,rfl,fun j hj=>?_⟩)
  rw [jB] at f1 f3
  have hm:∀ t,t ∈ f j↔TgA b es j t:=fun t=>(f1.mem j t).trans ⟨TagR.sub,TagR.all (hfull j hj) (fun u hu _=>hfull u hu)⟩
  obtain ⟨xs,x1,x2,x3⟩:=f3 j (hfull j hj)
  exact ⟨f1.srt j,by rw [qm9 (f1.srt j) x1 fun t=>(hm t).trans (x3 t).symm];exact x2,hm⟩
 ·subst e
  obtain ⟨h1,h2,h3,h4,h5⟩:=qoj ht hi
  have hiB:i<78:=by omega
  have hst:=qqh (V:=V) h hV h1
  have htag:Ev (fun n=>qf0 n es [(out[i]:Int)]) (bgT es out[i]):=qnc hes (by simp) (by simp)
  generalize hu:out[i]=u at h1 h2 h3 h4 hst htag
  obtain ⟨f',hf',e1,e2,e3⟩:∃ f',TagL f' (TgR b es (out.take i++[u]) (out.take i))∧(∀ j,(f' j).length≤i*6001+1)∧(∀ j,j ≠ u→f' j=f j) ∧
    ∀ n,n+1=n+1→Ev (fun n=>bif stT b u then (qf0 n es [(u:Int)]).bind fun t=>(idx (vecT f (npl b)) (u:Int)).bind fun y=>(qgS n y t).bind fun y2=>some (setS (vecT f (npl b)) (u:Int) y2) else some (vecT f (npl b))) (vecT f' (npl b)):=by
   have hsplit:∀ j t,TgR b es (out.take i++[u]) (out.take i) j t↔TgR b es (out.take i) (out.take i) j t∨(j=u∧stT b u=true∧t=bgT es u):=fun j t=>by
    constructor
    ·rintro (⟨q1,q2,q3⟩|q)
     ·rcases List.mem_append.1 q1 with q1|q1
      ·exact .inl (.inl ⟨q1,q2,q3⟩)
      ·obtain rfl:=List.mem_singleton.1 q1
       exact .inr ⟨rfl,q2,q3⟩
     ·exact .inl (.inr q)
    ·rintro ((⟨q1,q2,q3⟩|q)|⟨rfl,q2,q3⟩)
     ·exact .inl ⟨jL _ q1,q2,q3⟩
     ·exact .inr q
     ·exact .inl ⟨jR _ (List.mem_singleton.2 rfl),q2,q3⟩
   cases hb:stT b u with
   | false =>
    refine ⟨f,f1.congr fun j t=>?_,fun j=>by have:=f2 j;omega,fun _ _=>rfl,fun _ _=>Ev.ff rfl .done⟩
    rw [hsplit,hb]
    exact ⟨.inl,fun q=>q.elim id fun q=>by cases q.2.1⟩
   | true =>
    refine ⟨putF f u (bgT es u),(f1.put u _).congr fun j t=>?_,fun j=>?_,fun j hj=>if_neg hj,fun _ _=>Ev.tt rfl (Ev.bind htag (Ev.bindN (qfi h1) (Ev.bind (qnZ (f1.srt u) ?_ fun x hx=>?_) (Ev.now ?_))))⟩
    ·rw [hsplit,hb]
     exact ⟨fun q=>q.imp id fun q=>⟨q.1,rfl,q.2⟩,fun q=>q.imp id fun q=>⟨q.1,q.2.2⟩⟩
    ·unfold putF
     have:=f2 j
     split
     ·rename_i e
      subst e
      have:=qo9 (xs:=f j) (t:=bgT es j)
      omega
     ·omega
    ·have:=f2 u;omega
    ·have:=qjL ((f1.mem u x).1 hx).sub;omega
    ·rw [qnk]
     rfl
  have hmem:∀ t,t ∈ f' u↔TgA b es u t:=fun t=>(hf'.mem u t).trans ⟨TagR.sub,TagR.all (jR _ (List.mem_singleton.2 rfl)) h3⟩
  have hcode:∀ {X},Ev (fun n=>(idx (vecT f' (npl b)) (u:Int)).bind fun y=>bif decide ((y.length:Int) > 64) then some (.ret ([],3)) else (qbd n (some V) (u:Int)).bind fun succ=>(qbq es (u:Int) succ n (vecT f' (npl b)) 0).bind fun o=>match o with|(X2,_)=>qaP (some V) V es (ints out) n X2 ((i+1:Nat):Int)) X→Ev (fun n=>qaP (some V) V es (ints out) (n+1) (vecT f (npl b)) (i:Int)) X:=fun {X} hX=>by
   have hpl:idx V.places ((u:Nat):Int)=some (gt (places b.Aa) u):=by rw [hP];exact qaa h1
   simp only [qaP,qd3,qi hi,cond_true,qmV hi,hu,je,hpl,wS i]
   exact Ev.bind hst (Ev.bind (e3 0 rfl) hX)
  by_cases h64:(f' u).length≤64
  ·right
   obtain ⟨g,g1,g2,g3⟩:=qsS h hes hel h1 h4 hf' hmem h64 e1 (by omega)
   refine ⟨vecT g (npl b),⟨g,rfl,?_,fun j=>by have:=g2 j;omega,fun j hj=>?_⟩,fun X hX=>?_⟩
   ·rw [jr hi,hu];exact g1
   ·rw [jr hi,hu] at hj
    rcases List.mem_append.1 hj with hj|hj
    ·exact f3 j hj
    ·obtain rfl:=List.mem_singleton.1 hj
     exact ⟨f' j,hf'.srt j,h64,hmem⟩
   ·refine hcode (Ev.bindN (qfi h1) (Ev.ff (decide_eq_false (by omega)) (Ev.bind (qhE h hV hP h1) (Ev.bind g3 hX))))
  ·left
   refine EvQ.of (Ev.succ (hcode (Ev.bindN (qfi h1) (Ev.tt (decide_eq_true (by omega)) .done)))) (.inr ⟨rfl,u,h1,f' u,hf'.srt u,by omega,fun t ht=>(hmem t).1 ht⟩)
 ·simp only [List.take_zero,jG,false_iff]
  rintro (⟨q,_⟩|⟨u,q,_⟩)<;>simp at q
end Go.Fw


namespace Go.Fw
open Go
set_option maxRecDepth 100000
def f0T (b:qd) (es:List qa) (S:List Nat) (j:Nat):List (List Int):=if j ∈ S∧stT b j=true then [bgT es j] else []
theorem qtR {b:qd} {es:List qa} {S:List Nat}:TagL (f0T b es S) (TgR b es S []) where
 srt j:=by unfold f0T;split;exact qqJ;exact qqE
 mem j t:=by
  unfold f0T
  split
  ·rename_i hh
   rw [List.mem_singleton]
   constructor
   ·intro e;exact .inl ⟨hh.1,hh.2,e⟩
   ·rintro (⟨_,_,e⟩|⟨u,q,_⟩)
    ·exact e
    ·cases q
  ·rename_i hh
   constructor
   ·intro e;cases e
   ·rintro (⟨q1,q2,_⟩|⟨u,q,_⟩)
    ·exact absurd ⟨q1,q2⟩ hh
    ·cases q
theorem qp8 {b:qd} {es:List qa} (h:blockB b=true) (hes:okL qG es):Ev (fun n=>qdu es (ints (startN b (npl b))) n (vecT (fun _=>[]) (npl b)) 0) (vecT (f0T b es (List.range (npl b))) (npl b),((startN b (npl b)).length:Int)):=by
 have hl:npl b≤78:=qM (qw (qE h))
 have hs:(startN b (npl b)).length≤npl b:=qnl
 have hm:∀ k,k ∈ startN b (npl b)↔k<npl b∧stT b k=true:=fun k=>by unfold startN;rw [qsh];rfl
 have:=loopF (Lf:=qdu es (ints (startN b (npl b)))) (S:=fun t=>vecT (fun j=>if j ∈ (startN b (npl b)).take t then [bgT es j] else []) (npl b)) (len:=(startN b (npl b)).length) (fin:=(vecT (f0T b es (List.range (npl b))) (npl b),((startN b (npl b)).length:Int))) (fun n=>?_) (fun t ht X hX=>?_)
 ·simpa using this
 ·simp only [qdu,qd3,qj (jf _),cond_false,jB]
  congr 2
  refine qjK (fun j hj=>?_)
  unfold f0T
  by_cases hq:stT b j=true
  ·rw [if_pos ((hm j).2 ⟨hj,hq⟩),if_pos ⟨List.mem_range.2 hj,hq⟩]
  ·rw [if_neg (fun x=>hq ((hm j).1 x).2),if_neg (fun x=>hq x.2)]
 ·have hk:(startN b (npl b))[t]<npl b:=((hm _).1 (jp ht)).1
  simp only [qdu,qd3,qi ht,cond_true,qmV ht,je,qfi hk,wS t]
  refine Ev.bind (qq9 hes) ?_
  rw [qnk]
  have e:vecT (fun i=>if i=(startN b (npl b))[t] then [startTs es ((startN b (npl b))[t]:Int)] else if i ∈ (startN b (npl b)).take t then [bgT es i] else []) (npl b)=vecT (fun j=>if j ∈ (startN b (npl b)).take (t+1) then [bgT es j] else []) (npl b):=by
   refine qjK (fun j _=>?_)
   rw [jr ht]
   by_cases h1:j=(startN b (npl b))[t]
   ·rw [if_pos h1,if_pos (jR _ (List.mem_singleton.2 h1)),h1]
    rfl
   ·rw [if_neg h1]
    by_cases h2:j ∈ (startN b (npl b)).take t
    ·rw [if_pos h2,if_pos (jL _ h2)]
    ·rw [if_neg h2,if_neg (fun hh=>(List.mem_append.1 hh).elim h2 (fun h3=>h1 (List.mem_singleton.1 h3)))]
  rw [e]
  exact hX
theorem qte {b:qd} {es:List qa} {f:Nat→List (List Int)} {S R:List Nat} {u:Nat} (h:blockB b=true) (hes:okL qG es) (hel:es.length≤6) (hu:u<npl b) (hn:(succL b u).count (u:Int)=0)
  (hf:TagL f (TgR b es S R)) (hfu:∀ t,t ∈ f u↔TgA b es u t) (h64:∀ j,(f j).length≤64) :
  EvQ (fun n=>qb2 es (u:Int) (succL b u) n (vecT f (npl b)) 0) fun r=>(∃ g i,r=.nxt (vecT g (npl b),i)∧TagL g (TgR b es S (R++[u]))∧∀ j,(g j).length≤64)∨(r=.ret ([],false)∧TgE b es none):=by
 have hS:=qeZ h (j:=u)
 have hun:(u:Int) ∉ succL b u:=List.count_eq_zero.1 hn
 refine loopR (Lf:=qb2 es (u:Int) (succL b u)) (len:=(succL b u).length)
  (fun k t=>∃ g,t=vecT g (npl b)∧TagL g (QK b es S R u k)∧g u=f u∧∀ j,(g j).length≤64) _
  (fun t ⟨g,e,g1,g2,g3⟩=>?_) (fun k t hk ⟨g,e,g1,g2,g3⟩=>?_) 0 (jz _) _ ⟨f,rfl,hf.congr fun j t=>QK.zero,rfl,h64⟩
 ·subst e
  simp only [qb2,qj (jf _),cond_false]
  exact EvQ.done (.inl ⟨g,_,rfl,g1.congr fun j t=>QK.full hu,g3⟩)
 ·subst e
  obtain ⟨v,hv,e1,e2⟩:=(qfW h hu).at hk
  have hne:u ≠ v:=fun e=>hun (by have:=jw e2;rwa [←e] at this)
  have hq:=qqP (es:=es) g1 v (g u)
  rw [g2] at hq
  have hq2:TagL (inF es g v (f u)) (QK b es S R u (k+1)):=hq.congr fun j t=>QK.succ e2 hfu
  have hin:Ev (fun n=>qb0 es (u:Int) (v:Int) n (vecT g (npl b)) 0) (vecT (inF es g v (g u)) (npl b),((g u).length:Int)) :=
   qpV hes hel hu hv hne (g1.srt v) (fun t ht=>by rw [g2] at ht;exact qjL ((hfu t).1 ht)) (fun t ht=>qjL (((g1.mem v t).1 ht).sub hu)) (by have:=g3 v;have:=g3 u;omega)
  rw [g2] at hin
  have hcode:∀ {X},Ev (fun n=>(idx (vecT (inF es g v (f u)) (npl b)) (v:Int)).bind fun z=>bif decide ((z.length:Int) > 64) then some (.ret ([],false)) else qb2 es (u:Int) (succL b u) n (vecT (inF es g v (f u)) (npl b)) ((k+1:Nat):Int)) X→Ev (fun n=>qb2 es (u:Int) (succL b u) (n+1) (vecT g (npl b)) (k:Int)) X:=fun {X} hX=>by
   simp only [qb2,qi hk,cond_true,e1,je,wS k]
   exact Ev.bind hin hX
  by_cases hlen:(inF es g v (f u) v).length≤64
  ·right
   refine ⟨vecT (inF es g v (f u)) (npl b),⟨_,rfl,hq2,by rw [qkF hne,g2],fun j=>?_⟩,fun X hX=>hcode (Ev.bindN (qfi hv) (Ev.ff (decide_eq_false (by omega)) hX))⟩
   by_cases e:j=v
   ·subst e;exact hlen
   ·rw [qkF e];exact g3 j
  ·left
   exact EvQ.of (Ev.succ (hcode (Ev.bindN (qfi hv) (Ev.tt (decide_eq_true (by omega)) .done)))) (.inr ⟨rfl,v,hv,_,hq2.srt v,by omega,fun t ht=>((hq2.mem v t).1 ht).sub hu⟩)
theorem qq5 {b:qd} {es:List qa} (hok:qbn b) (h:blockB b=true) (hes:okL qG es) (hel:es.length≤6) {out:List Nat} (ht:Topo (succL b) (npl b) out) (hfull:∀ j,j<npl b→j ∈ out) :
  EvQ (fun n=>qb1 b es (ints out) n (vecT (f0T b es (List.range (npl b))) (npl b)) 0) fun r=>(∃ g i,r=.nxt (vecT g (npl b),i)∧TgE b es (some g))∨(r=.ret ([],false)∧TgE b es none):=by
 have hl:npl b≤78:=qM (qw (qE h))
 have hlen:=ht.len
 refine loopR (Lf:=qb1 b es (ints out)) (len:=out.length)
  (fun i t=>∃ f,t=vecT f (npl b)∧TagL f (TgR b es (List.range (npl b)) (out.take i))∧∀ j,(f j).length≤64) _
  (fun t ⟨f,e,f1,f2⟩=>?_) (fun i t hi ⟨f,e,f1,f2⟩=>?_) 0 (jz _) _ ⟨_,rfl,by rw [List.take_zero];exact qtR,fun j=>by unfold f0T;split<;>simp⟩
 ·subst e
  simp only [qb1,qd3,qj (jf _),cond_false]
  refine EvQ.done (.inl ⟨f,_,rfl,fun j hj=>⟨f1.srt j,f2 j,fun t=>(f1.mem j t).trans ⟨TagR.sub,TagR.all (List.mem_range.2 hj) fun u hu _=>?_⟩⟩⟩)
  rw [jB];exact hfull u hu
 ·subst e
  obtain ⟨h1,h2,h3,h4,h5⟩:=qoj ht hi
  have hmem:∀ t,t ∈ f out[i]↔TgA b es out[i] t:=fun t=>(f1.mem _ t).trans ⟨TagR.sub,TagR.all (List.mem_range.2 h1) h3⟩
  obtain ⟨r,he,hr⟩:=qte h hes hel h1 h4 f1 hmem f2
  have hcode:∀ {X},Ev (fun n=>match r with|.ret r=>some (.ret r)|.nxt (X2,_)=>qb1 b es (ints out) n X2 ((i+1:Nat):Int)) X→Ev (fun n=>qb1 b es (ints out) (n+1) (vecT f (npl b)) (i:Int)) X:=fun {X} hX=>by
   simp only [qb1,qd3,qi hi,cond_true,qmV hi,je,wS i]
   exact Ev.bind (qhQ hok h h1) (Ev.bind he hX)
  rcases hr with ⟨g,k,rfl,g1,g2⟩|⟨rfl,g1⟩
  ·right
   exact ⟨vecT g (npl b),⟨g,rfl,by rw [jr hi];exact g1,g2⟩,fun X hX=>hcode hX⟩
  ·left
   exact EvQ.of (Ev.succ (hcode .done)) (.inr ⟨rfl,g1⟩)
end Go.Fw


namespace Go.Fw
open Go
set_option maxRecDepth 100000
theorem qsF {b:qd} {es:List qa} (hok:qbn b) (h:blockB b=true) (hes:okL qG es) (hel:es.length≤6) {out:List Nat} (ht:Topo (succL b) (npl b) out) (hfull:∀ j,j<npl b→j ∈ out) :
  EvQ (fun n=>qf8 n b es (ints out)) fun r=>(∃ g,r=(vecT g (npl b),true)∧TgE b es (some g))∨(r=([],false)∧TgE b es none):=by
 have hl:npl b≤78:=qM (qw (qE h))
 obtain ⟨r,he,hr⟩:=qq5 hok h hes hel ht hfull
 have hcode:∀ {X},Ev (fun n=>match r with|.ret r=>some r|.nxt (X2,_)=>some (X2,true)) X→Ev (fun n=>qf8 n b es (ints out)) X:=fun {X} hX=>by
  unfold qf8
  exact Ev.bind (qin h) (Ev.bindN (qoa (show npl b≤2147483648 by omega)) (Ev.bind (qlj hok h) (Ev.bind (qp8 h hes) (Ev.bind he hX))))
 rcases hr with ⟨g,i,rfl,hg⟩|⟨rfl,hg⟩
 ·exact EvQ.of (hcode .done) (.inl ⟨g,rfl,hg⟩)
 ·exact EvQ.of (hcode .done) (.inr ⟨rfl,hg⟩)
theorem qpC {b:qd} {V:Tview} {es:List qa} (h:blockB b=true) (hV:V.Be=b) (hP:V.places=places b.Aa) (hes:okL qG es) (hel:es.length≤6) :
  EvQ (fun n=>qe8 n (some V) es) fun r=>∃ R,Topo (succL b) (npl b) R∧((R.length=npl b∧((∃ g,r=(vecT g (npl b),0)∧TgE b es (some g))∨(r=([],3)∧TgE b es none)))∨(r=([],7)∧R.length<npl b∧Stuck (succL b) (npl b) R)):=by
 have hl:npl b≤78:=qM (qw (qE h))
 obtain ⟨r,h4,R,h5,h6⟩:=qrj (V:=V) h hV hP
 unfold qe8
 rcases h6 with ⟨rfl,h7⟩|⟨rfl,h7,h8⟩
 ·obtain ⟨r,he,hr⟩:=qsp h hV hP hes hel h5 (h5.full h7)
  have hn:V.places.length=npl b:=by rw [hP]
  have hcode:∀ {X},Ev (fun n=>match r with|.ret r=>some r|.nxt (X2,_)=>some (X2,0)) X→Ev (fun n=>(qdC n (some V)).bind fun o=>match o with
   | (order,ok) =>
    bif (!ok) then some ([],7) else
    (some V).bind fun V' =>
    (mkS (V'.places.length:Int) ([]:List (List Int))).bind fun X =>
    (qaP (some V) V' es order n X 0).bind fun o=>match o with
    | .ret r=>some r
    | .nxt (X2,_)=>some (X2,0)) X:=fun {X} hX=>by
   refine Ev.bind h4 (Ev.ff rfl (Ev.bindN rfl ?_))
   rw [hn]
   exact Ev.bindN (qoa (by omega)) (Ev.bind he hX)
  rcases hr with ⟨g,i,rfl,hg⟩|⟨rfl,hg⟩
  ·exact EvQ.of (hcode .done) ⟨R,h5,.inl ⟨h7,.inl ⟨g,rfl,hg⟩⟩⟩
  ·exact EvQ.of (hcode .done) ⟨R,h5,.inl ⟨h7,.inr ⟨rfl,hg⟩⟩⟩
 ·exact EvQ.of (Ev.bind h4 (Ev.tt rfl .done)) ⟨R,h5,.inr ⟨rfl,h7,h8⟩⟩
theorem qp9 {b:qd} {es:List qa} {p:Int} (hok:qbn b) (hes:okL qG es) :
  ∃ R:List (List Int) × Int,Ev (fun n=>qhT n b es p) R∧Ev (fun n=>qgT n b es p) R∧((codeP b es p=0∧R.2=0∧R.1.length≤64∧∀ t,t ∈ R.1↔TgA b es p.toNat t)∨(R.1=[]∧R.2 ≠ 0)):=by
 obtain ⟨o,hv,hv0⟩:=qpr (p:=p) hok hes
 have hs:=qpZ (p:=p) hok hes
 unfold qhT qgT
 by_cases h0:codeP b es p=0
 ·obtain ⟨ls,lo,de,rfl⟩:=hv0 h0
  obtain ⟨h,hel,_⟩:=qfV (qjH h0)
  have hl:npl b≤78:=qM (qw (qE h))
  obtain ⟨k,hk,rfl⟩:∃ k:Nat,k<npl b∧p=(k:Int):=by
   have hx:=qjH h0
   have hp:inPl b p=true:=by
    cases hp:inPl b p with
    | true=>rfl
    | false=>unfold codeP at h0;rw [hx,hp] at h0;cases h0
   unfold inPl at hp
   rw [qbT] at hp
   have:((places b.Aa).length:Int)=(npl b:Int):=rfl
   exact ⟨p.toNat,by omega,by omega⟩
  rw [h0] at hv hs
  obtain ⟨out,h1,h2,h3⟩:=qrv hok h
  obtain ⟨r,hi,R,h5,h6⟩:=qpC (V:=⟨b,places b.Aa,ls,lo,de,[]⟩) h rfl rfl hes hel
  obtain ⟨k1,k2⟩:=qrm h5 h1 h2
  rcases h6 with ⟨h7,h8⟩|⟨rfl,h7,h8⟩
  ·have hout:=k1 h7
   obtain ⟨q,hq,hq2⟩:=qsF hok h hes hel h1 (h1.full hout)
   have hd:(!decide (out.length=npl b))=false:=by simp [hout]
   rcases h8 with ⟨g,rfl,hg⟩|⟨rfl,hg⟩<;>rcases hq2 with ⟨f,rfl,hf⟩|⟨rfl,hf⟩
   ·obtain ⟨q1,_⟩|⟨f',g',e1,e2,e3⟩:=qmk hf hg
    ·cases q1
    ·cases e1;cases e2
     obtain ⟨_,s2,s3⟩:=hf k hk
     refine ⟨(f k,0),Ev.bind hs (Ev.ff rfl (Ev.bind h3 (Ev.ff hd (Ev.bind hq (Ev.ff rfl (Ev.bindN (qfi hk) .done)))))),Ev.bind hv (Ev.ff rfl (Ev.bind hi (Ev.ff rfl (Ev.bindN (qfi hk) (Ev.now (by rw [e3 k hk])))))),.inl ⟨h0,rfl,s2,s3⟩⟩
   ·obtain ⟨q1,q2⟩|⟨f',g',e1,e2,e3⟩:=qmk hf hg
    ·cases q2
    ·cases e1
   ·obtain ⟨q1,q2⟩|⟨f',g',e1,e2,e3⟩:=qmk hf hg
    ·cases q1
    ·cases e2
   ·exact ⟨([],3),Ev.bind hs (Ev.ff rfl (Ev.bind h3 (Ev.ff hd (Ev.bind hq (Ev.tt rfl .done))))),Ev.bind hv (Ev.ff rfl (Ev.bind hi (Ev.tt rfl .done))),(.inr ⟨rfl,by simp⟩)⟩
  ·have hout:=k2 h7 h8
   exact ⟨([],7),Ev.bind hs (Ev.ff rfl (Ev.bind h3 (Ev.tt (by rw [decide_eq_false (by omega)];rfl) .done))),Ev.bind hv (Ev.ff rfl (Ev.bind hi (Ev.tt rfl .done))),(.inr ⟨rfl,by simp⟩)⟩
 ·have hc:(codeP b es p != 0)=true:=by simpa using h0
  exact ⟨([],codeP b es p),Ev.bind hs (Ev.tt hc .done),Ev.bind hv (Ev.tt hc .done),(.inr ⟨rfl,h0⟩)⟩
end Go.Fw


namespace Go.Fw
open Go
set_option maxRecDepth 100000
end Go.Fw


namespace Go.Fw
open Go
set_option maxRecDepth 100000
theorem qr0 {f:Nat→List Int→Option qW} {g:List Int→qW}:∀ {xs:List (List Int)},(∀ t,t ∈ xs→Ev (fun n=>f n t) (g t))→Ev (fun n=>fltF (f n) xs) (xs.filter fun t=>!(g t).Bm)
 | [],_=>Ev.done
 | t::xs,h=>by
  show Ev (fun n=>(f n t).bind fun e=>(fltF (f n) xs).bind fun q=>some (bif e.Bm then q else t::q)) _
  refine Ev.bind (h t (jq ..)) (Ev.bind (qr0 fun u hu=>h u (jo _ hu)) (Ev.now ?_))
  rw [List.filter_cons]
  cases (g t).Bm<;>rfl
theorem qot {b:qd} {es:List qa} {p:Int} (hok:qbn b) (hes:okL qG es) {R:List (List Int) × Int} (hs:Ev (fun n=>qhT n b es p) R) (hi:Ev (fun n=>qgT n b es p) R)
  (hx:(codeP b es p=0∧R.2=0∧R.1.length≤64∧∀ t,t ∈ R.1↔TgA b es p.toNat t)∨(R.1=[]∧R.2 ≠ 0)) :
  ∃ Q:List (List Int) × Int,Ev (fun n=>qgB n b es p) Q∧Q.1.length≤R.1.length∧(∀ t,t ∈ Q.1→t ∈ R.1)∧Q.2=R.2:=by
 obtain ⟨xs,c⟩:=R
 unfold qgB
 rcases hx with ⟨h0,h1,h2,h3⟩|⟨h1,h2⟩
 ·obtain rfl:c=0:=h1
  have h2:xs.length≤64:=h2
  have hex:=(qfV (qjH h0)).2.2
  have hel:=(qfV (qjH h0)).2.1
  have hlen:∀ t,t ∈ xs→t.length=es.length:=fun t ht=>qjL ((h3 t).1 ht)
  have hd:decide (xs.length≤1000000)=true:=decide_eq_true (by omega)
  exact ⟨(xs.filter fun t=>!(effE (selE es (fun i=>matT (gt es i) (at0 t i) p) es.length)).Bm,0),Ev.bind hi (Ev.tt hd (Ev.bind (qr0 fun t ht=>qlh hes (hlen t ht)) .done)),Ja ..,fun t ht=>(List.mem_filter.1 ht).1,rfl⟩
 ·obtain rfl:xs=[]:=h1
  have hc:(c != 0)=true:=by simpa using h2
  exact ⟨([],c),Ev.bind hi (Ev.tt rfl .done),jf _,fun t ht=>ht,rfl⟩
end Go.Fw


namespace Go.Fw
open Go
set_option maxRecDepth 100000
theorem qs2 {xs:List Int} {x:Int} (hl:xs.length≤1048576):Ev (fun n=>qiW n xs x) (hasI xs x):=by
 have hL:Ev (fun n=>qfd xs x n 0) (bif xs.all (fun y=>!(y==x)) then .nxt (xs.length:Int) else .ret true) :=
  qjh (fun n=>by simp only [qfd,qj (jf _),cond_false]) (fun j hj X hX=>by
   simp only [qfd,qi hj,cond_true,qZ hj,je,wS j]
   cases xs[j]==x
   ·exact hX
   ·exact .done)
 have e:hasI xs x = !(xs.all fun y=>!(y==x)):=by
  unfold hasI
  rw [jm]
  simp
 rw [e]
 unfold qiW
 refine Ev.bind hL ?_
 cases (xs.all fun y=>!(y==x))<;>exact .done
theorem qrK {q:Nat→Bool} {m k:Nat} (hk:k<m):hasI (selL q m) (k:Int)=q k:=by
 unfold hasI
 rw [jm,List.any_eq_true]
 constructor
 ·rintro ⟨x,hx,e⟩
  rw [beq_iff_eq] at e
  subst e
  unfold selL at hx
  obtain ⟨j,hj,ej⟩:=List.mem_map.1 hx
  have:j=k:=by omega
  subst this
  exact (List.mem_filter.1 hj).2
 ·intro hq
  exact ⟨(k:Int),List.mem_map.2 ⟨k,List.mem_filter.2 ⟨List.mem_range.2 hk,hq⟩,rfl⟩,by simp⟩
theorem qrh {b:qd} {es:List qa} {path:List Int} (hok:qbn b) (hes:okL qG es) (hp:path.length≤1048576) :
  (∃ c:Int,c ≠ 0∧Ev (fun n=>qjR n b es path) ([],c)∧Ev (fun n=>qiC n b es path) ([],c)) ∨
  (codeX b es=0∧dpathB b path=true∧Ev (fun n=>qiC n b es path) (runTs es path,0)∧Ev (fun n=>qhJ n b es path) (effE (selE es (fun i=>matT (gt es i) (at0 (runTs es path) i) (lastP path)) es.length),0)):=by
 obtain ⟨o,ev,hv⟩:=qpF hok hes
 have hc:=qnq hok hes
 unfold qjR qiC qhJ
 by_cases h0:codeX b es=0
 ·obtain ⟨hb,_,hx⟩:=qfV h0
  obtain ⟨ls,lo,de,rfl⟩:=hv h0
  rw [h0] at ev hc
  have d1:=qnu (path:=path) hok hp
  have d2:=qnQ (V:=⟨b,places b.Aa,ls,lo,de,[]⟩) (path:=path) hb rfl rfl hp
  rw [hb,jJ] at d1
  cases hd:dpathB b path
  ·rw [hd] at d1 d2
   exact .inl ⟨2,by decide,Ev.bind hc (Ev.ff rfl (Ev.bind d1 (Ev.tt rfl .done))),Ev.bind ev (Ev.ff rfl (Ev.bind d2 (Ev.tt rfl .done)))⟩
  ·obtain ⟨h1,_⟩:=qm3 hd
   rw [hd] at d2
   have iE:idx path (W64 ((path.length:Int)-1))=some (lastP path):=by
    rw [qbc (by omega),show (path.length:Int)-1=((path.length-1:Nat):Int) by omega,qaN (by omega)];rfl
   exact .inr ⟨h0,rfl,Ev.bind ev (Ev.ff rfl (Ev.bind d2 (Ev.ff rfl (Ev.bind (qnc hes h1 hp) .done)))),Ev.bind ev (Ev.ff rfl (Ev.bind d2 (Ev.ff rfl (Ev.bindN iE (Ev.bind (qnc hes h1 hp) (Ev.bind (qlh (tag:=runTs es path) hes qju) .done))))))⟩
 ·have hne:(codeX b es != 0)=true:=by simpa using h0
  exact .inl ⟨codeX b es,h0,Ev.bind hc (Ev.tt hne .done),Ev.bind ev (Ev.tt hne .done)⟩
theorem qky {b:qd} {x:Int} (h:inPl b x=true):x.toNat<npl b∧x=(x.toNat:Int):=by
 unfold inPl at h
 rw [qbT] at h
 have:((places b.Aa).length:Int)=(npl b:Int):=rfl
 omega
theorem qp6 {b:qd} {es:List qa} {path:List Int} (hd:dpathB b path=true) (hs:startB b (gt (places b.Aa) (at0 path 0).toNat)=true):∀ k,k<path.length→TgA b es (at0 path k).toNat (runTs es (path.take (k+1))):=by
 have hpl:∀ i,i<path.length→inPl b (at0 path i)=true:=fun i hi=>qml hd hi
 have hst:∀ i,i<path.length→stepP b path i=true:=by
  unfold dpathB at hd
  simp only [jg] at hd
  exact fun i hi=>qay.1 hd.2.2 i hi
 intro k
 induction k with
 | zero =>
  intro hk
  have e:runTs es (path.take 1)=bgT es (at0 path 0).toNat:=by
   unfold bgT
   rw [←(qky (hpl 0 hk)).2]
   cases path with
   | nil=>simp at hk
   | cons q path=>rfl
  rw [e]
  exact .start hs
 | succ k ih =>
  intro hk
  have e:runTs es (path.take (k+1+1))=spT es (runTs es (path.take (k+1))) (at0 path (k+1)).toNat:=by
   unfold spT
   rw [←(qky (hpl _ hk)).2,qp1 (by rw [jZ];omega),qpP hk,←jr hk]
  rw [e]
  refine .step (qky (hpl k (by omega))).1 ?_ (ih (by omega))
  rw [←(qky (hpl _ hk)).2]
  have h2:=hst (k+1) hk
  unfold stepP at h2
  rw [decide_eq_false (by omega),Jl] at h2
  unfold hasI at h2
  obtain ⟨x,hx,ex⟩:=List.any_eq_true.1 h2
  rw [beq_iff_eq] at ex
  exact ex ▸ hx
theorem qr1 {a c:List Int} (hl:a.length≤1048576):Ev (fun n=>qhD n a c) (decide (a=c)):=by
 unfold qhD
 by_cases he:a.length=c.length
 ·refine Ev.ff (by simp [he]) ?_
  by_cases hac:a=c
  ·subst hac
   rw [decide_eq_true rfl]
   refine Ev.bind (b:=.nxt (a.length:Int)) ?_ .done
   refine loopF (τ:=Unit) (Lf:=fun n _ i=>qb9 a a n i) (S:=fun _=>()) (len:=a.length) (fun n=>by simp only [qb9,qj (jf _),cond_false]) (fun i hi X hX=>?_)
   simp only [qb9,qi hi,cond_true,qZ hi,je,wS i]
   exact Ev.ff (by simp) hX
  ·rw [decide_eq_false hac]
   have hno:∀ k j,j+k=a.length→a.take j=c.take j→Ev (fun n=>qb9 a c n (j:Int)) (.ret false):=by
    intro k
    induction k with
    | zero =>
     intro j hj h
     rw [List.take_of_length_le (by omega),List.take_of_length_le (by omega)] at h
     exact absurd h hac
    | succ k ih =>
     intro j hj h
     refine Ev.succ ?_
     simp only [qb9,qi (show j<a.length by omega),cond_true,qZ (show j<a.length by omega),qZ (show j<c.length by omega),je,wS j]
     by_cases hj2:a[j]'(by omega)=c[j]'(by omega)
     ·refine Ev.ff (by simp [hj2]) (ih (j+1) (by omega) ?_)
      rw [jr (by omega),jr (by omega),h,hj2]
     ·exact Ev.tt (by simpa using hj2) .done
   exact Ev.bind (hno a.length 0 (by omega) rfl) .done
 ·refine Ev.tt (by simp;omega) ?_
  rw [decide_eq_false (fun h=>he (by rw [h]))]
  exact .done
theorem qrW {r:List Int} {xs:List (List Int)} {f:Bool} (hl:xs.length≤1048576) (ht:∀ t,t ∈ xs→t.length≤1048576) :
  Ev (fun n=>qdc r xs n f 0) (f || xs.any (fun t=>decide (t=r)),(xs.length:Int)):=by
 have main:∀ k j,j+k=xs.length→Ev (fun n=>qdc r xs n (f || (xs.take j).any (fun t=>decide (t=r))) (j:Int)) (f || xs.any (fun t=>decide (t=r)),(xs.length:Int)):=by
  intro k
  induction k with
  | zero =>
   intro j hj
   obtain rfl:j=xs.length:=by omega
   exact Ev.succ (by simp only [qdc,qj (jf _),cond_false,jB];exact .done)
  | succ k ih =>
   intro j hj
   have hlt:j<xs.length:=by omega
   have h2:=ih (j+1) (by omega)
   rw [jr hlt,List.any_append,←Bool.or_assoc] at h2
   refine Ev.succ ?_
   simp only [qdc,qi hlt,cond_true,qZ hlt,je,wS j]
   cases hb:(f || (xs.take j).any fun t=>decide (t=r))
   ·rw [hb] at h2
    refine Ev.ff rfl (Ev.bind (qr1 (ht _ (jp hlt))) ?_)
    simpa using h2
   ·rw [hb] at h2
    exact Ev.tt rfl (by simpa using h2)
 have:=main xs.length 0 (by omega)
 simpa using this
theorem qpW {code:List (IntK .u8)} (hk:rngL rng8 code):Ev (fun n=>qkE n code) true:=by
 unfold qkE qnj
 refine Ev.bindN rfl (Ev.bif (fun _=>.done) (fun hl=>?_))
 have hl:code.length≤4096:=by have:=of_decide_eq_false hl;omega
 obtain ⟨⟨b,es,path⟩,hd,hcase⟩:=qsi (code:=code) ⟨by omega,hk.2⟩
 dsimp only at hcase
 have hok:=hcase.blk.ok
 have hes:=hcase.es
 have hpl:=hcase.l2
 rcases qrh (path:=path) hok hes (by omega) with ⟨c,hne,hs,hi⟩|⟨h0,hdp,hi,he⟩
 ·exact Ev.bind hd (Ev.bind hi (Ev.bind hd (Ev.tt (by simpa using hne) (Ev.bind hs (Ev.bind (Ev.tt (by simp) .done) .done)))))
 ·obtain ⟨h1,_⟩:=qm3 hdp
  have hel:=(qfV h0).2.1
  have hb:=(qfV h0).1
  have iE:idx path (W64 ((path.length:Int)-1))=some (lastP path):=by
   rw [qbc (by omega),show (path.length:Int)-1=((path.length-1:Nat):Int) by omega,qaN (by omega)];rfl
  have hcp:codeP b es (lastP path)=0:=qr2 h0 (qml hdp (i:=path.length-1) (by omega))
  obtain ⟨o,ev,_⟩:=qpr (p:=lastP path) hok hes
  rw [hcp] at ev
  have f2:=qsf (tag:=runTs es path) hes.len
  rw [qsD] at f2
  have hT:Ev (fun n=>qgd n b es (runTs es path) (lastP path)) (effE (selE es (fun i=>matT (gt es i) (at0 (runTs es path) i) (lastP path)) es.length),0):=by
   unfold qgd
   exact Ev.bind ev (Ev.ff rfl (Ev.bind f2 (Ev.ff rfl (Ev.bind (qlh hes qju) .done))))
  have sS:=qmy hok
  have eS:startsR b=(startsL b,0):=by unfold startsR;rw [hb];rfl
  rw [eS] at sS
  have hln:npl b≤78:=qM (qw (qE hb))
  have hsl:(startsL b).length≤npl b:=qsr
  have hp0:=qky (qml hdp (i:=0) h1)
  have hh:hasI (startsL b) (at0 path 0)=startB b (gt (places b.Aa) (at0 path 0).toNat):=by
   rw [hp0.2];exact qrK hp0.1
  obtain ⟨⟨xs,c⟩,t1,t2,t3⟩:=qp9 (p:=lastP path) hok hes
  refine Ev.bind hd (Ev.bind hi (Ev.bind hd (Ev.ff rfl (Ev.bindN iE (Ev.bindN (qiU (by rw [qju];omega)) (Ev.bind hT (Ev.bind hd (Ev.bind he (Ev.bind hd (Ev.bind (b:=false) (Ev.ff rfl (Ev.ff rfl (Ev.now (by simp)))) (Ev.ff rfl (Ev.bind sS (Ev.bind t2 (Ev.bind hd ?_))))))))))))))
  obtain ⟨Q,q2,q3,_,q4⟩:=qot hok hes t1 t2 t3
  rcases t3 with ⟨_,g1,g2,g3⟩|⟨_,g2⟩
  ·obtain rfl:c=0:=g1
   have g2:xs.length≤64:=g2
   have hf:(!hasI (startsL b) (at0 path 0) || xs.any (fun t=>decide (t=runTs es path)))=true:=by
    cases hst:startB b (gt (places b.Aa) (at0 path 0).toNat)
    ·rw [hh,hst];rfl
    ·rw [hh,hst]
     refine List.any_eq_true.2 ⟨runTs es path,(g3 _).2 ?_,by simp⟩
     have:=qp6 (es:=es) hdp hst (path.length-1) (by omega)
     rw [show path.length-1+1=path.length by omega,jB] at this
     exact this
   have hfd:=qrW (r:=runTs es path) (xs:=xs) (f:=!hasI (startsL b) (at0 path 0)) (by omega) (fun t ht=>by rw [qjL ((g3 t).1 ht)];omega)
   rw [hf] at hfd
   refine Ev.ff rfl (Ev.bindN (qaN (j:=0) h1) (Ev.bind (qs2 (by omega)) (Ev.bind hfd (Ev.bind q2 (Ev.tt rfl (Ev.tt (by rw [q4];rfl) (Ev.now ?_)))))))
   have:Q.1.length≤xs.length:=q3
   rw [decide_eq_true (by omega)]
  ·exact Ev.tt (by simpa using g2) (Ev.bind t1 (Ev.now (by simp)))
end Go.Fw
