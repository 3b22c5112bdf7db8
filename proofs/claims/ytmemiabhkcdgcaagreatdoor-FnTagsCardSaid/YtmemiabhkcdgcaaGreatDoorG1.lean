/- By a program of mine (gen.py): for each function a plain function and the proof that the code computes it. -/
import Derived.Test.YtmemiabhkcdgcaaGreatDoorA2
open Option renaming bind_some → je, map_some → jW
open Nat renaming le_refl → jf, le_of_ble_eq_true → js, mul_le_mul_right → jx, lt_of_lt_of_le → jy, zero_le → jz, succ_mul → jQ, le_trans → jS, add_zero → Jc, zero_add → Jj
open Bool renaming and_eq_true → jg, eq_iff_iff → jm, true_and → jJ, not_eq_true' → jO, and_assoc → Ji, not_true → Jk, false_or → Jl
open Go.Result renaming andThen_ok → jh
open List renaming getElem?_eq_getElem → ji, length_append → jj, length_singleton → jk, mem_cons_of_mem → jo, getElem_mem → jp, mem_cons_self → jq, take_succ_eq_append_getElem → jr, getElem?_take → jt, getElem?_append_left → ju, mem_of_getElem? → jw, getElem?_drop → jA, take_length → jB, getElem?_append_right → jD, drop_eq_getElem_cons → jE, eq_nil_of_length_eq_zero → jF, not_mem_nil → jG, length_map → jH, getElem?_toArray → jI, getD_eq_getElem?_getD → jK, mem_append_left → jL, getElem_of_mem → jM, mem_cons → jN, getElem?_cons_succ → jP, mem_append_right → jR, append_nil → jT, size_toArray → jV, map_append → jX, range_succ → jY, length_take → jZ, length_filter_le → Ja, map_cons → Jb, drop_eq_nil_of_le → Jd, all_eq_true → Je, length_cons → Jf, append_assoc → Jg, ext_getElem → Jh
open Go.Sem renaming run_bind → jl, run_pure → jn
open Int renaming toNat_natCast → jC
open Array renaming getElem?_append_left → jU

namespace Go.Fw
open Go Go.Proofs
open Go.RowKit (Below)
set_option maxRecDepth 100000
set_option maxHeartbeats 6400000
variable {n:Nat} {w:World} {cs1 cs2 cs3 cs4 cs5 cs6 cs7 cs8 cs9:List Value}
def qce (c:qt):Nat→Int→Option (Flow Bool Int)
 | 0,_=>none
 | n+1,i1 =>
  bif decide (i1<(c.Aq.length:Int)) then
   (idx c.Aq i1).bind fun y1 =>
   (qgF n c y1).bind fun r1 =>
   bif (!r1) then some (.ret false) else
   (subS c.Aq 0 i1).bind fun x1 =>
   (qau n x1 y1).bind fun r2 =>
   bif r2 then some (.ret false) else
   qce c n (W64 (i1+1))
  else
   some (.nxt i1)
def qfP (n:Nat) (c:qt):Option Bool :=
 (qce c n 0).bind fun o=>match o with
 | .ret r=>some r
 | .nxt _ =>
  some (decide ((c.Aq.length:Int)≤8))
theorem qkj {c:qt} (ha1:GoT.R w (old w) c cs1) {r:Bool} (hF:qfP n c=some r):RetV Tryz.prog 234 [GoT.v qt cs1] w r:=by
 obtain ⟨p1,k1,p2,k2,p3,k3,rfl,s1,s2,s3⟩:=qS ha1
 refine zV 30 Tryz.func234 rfl fun h=>zSR (qO h rfl rfl fun w1 bb1 h=>X1 10 0 h rfl ?_)
 obtain ⟨o1,hF,hK1⟩:=qe hF
 refine ql (rL (fun m e w'=>∃ (i1:Int),qce c m i1=some o1∧e=[(1,.pointer (some ⟨bb1,0,none⟩)),(6,.slice p2 c.Aq.length k2),(7,.int .i64 (c.Aq.length:Int)),(8,.int .i64 i1)]∧SH w w' [Ch.box bb1 (qy c p1 p2 p3 k1 k2 k3) 201]) n ⟨_,hF,rfl,h⟩ rfl ?_)
 rintro m1 e1 w2 ⟨i1,hF,rfl,h⟩
 rcases m1 with _|m1
 ·cases hF
 refine X0 5 rfl (qk rfl hF ?_ ?_)<;>intro hF
 ·refine X0 6 rfl ?_
  obtain ⟨y1,hy1,hF,he1,b1,_,q1,cs2,hp1,hq1,hr1,hc2⟩:=s2.ix hF
  obtain ⟨p4,k4,p5,k5,rfl,s4,s5⟩:=qaL hr1
  refine zxe hp1 hq1 he1 rfl (zc 0 (hc2.below h.below) rfl (qB qb h rfl rfl rfl fun w3 bb2 h=>zp1 rfl (zs 0 h rfl fun w4 h=>X2 5 1 0 h rfl (zcB h hF (qlm (h.old ha1) (qiE y1 (h.oldS s4) (h.oldS s5))) rfl fun r1 w5 h hF=>zp2 rfl (qh (t:=17) hF rfl ?_ ?_)))))<;>intro hF
  ·refine X0 8 rfl (qdF rfl rfl (X0 4 rfl ?_))
   obtain rfl:=qc hF;replace hF:=hK1
   exact rb h hF rfl
  refine X1 7 1 h rfl ?_
  obtain ⟨x1,hx1,hF⟩:=qe hF
  obtain ⟨p6,k6,hp2,hk1,hl1,g1⟩:=qos (h.oldS s2) hx1
  refine r_v (qdb qb rfl rfl rfl (qoy g1 rfl) hp2 hk1 hl1 rfl rfl rfl rfl) rfl ?_
  have s6:=qoH s2 hx1 hp2 hk1
  refine X0 3 rfl (zcB h hF (qdY ⟨_,_,rfl,(h.oldS s6)⟩ (qhM (x:=y1) 0 h rfl (qiE y1 (h.oldS s4) (h.oldS s5)))) rfl fun r2 w6 h hF=>X0 2 rfl (qk rfl hF ?_ ?_))<;>intro hF
  ·refine X0 4 rfl ?_
   obtain rfl:=qc hF;replace hF:=hK1
   exact rb h hF rfl
  refine X0 6 rfl ?_
  replace h:=h.pick [1] rfl
  exact rK ⟨_,hF,rfl,h⟩ rfl
 refine qp rfl ?_
 obtain rfl:=qc hF;replace hF:=hK1
 exact X1 8 0 h rfl (rb h hF rfl)
def qh3 (_:Nat) (a:qav) (v0:Int):Option Bool :=
 some (a.Ar==v0)
theorem qlc {a:qav} {v0:Int} (ha1:GoT.R w (old w) a cs1) {p3:Option Addr} (ha2:GoT.R w (old w) (some v0) [.pointer p3]) {r:Bool} (hF:qh3 n a v0=some r):RetV Tryz.prog 266 [GoT.v qav cs1,.pointer p3] w r:=by
 obtain ⟨p1,k1,p2,k2,rfl,s1,s2⟩:=qaL ha1
 obtain ⟨b1,o_1,cs2,rfl,-,hr1,hc1⟩:=PtR.get ha2 rfl
 obtain rfl:=hr1
 exact zV 8 Tryz.func266 rfl fun h=>zSR (qO h rfl rfl fun w1 bb1 h=>X1 6 0 h rfl (zc 0 (hc1.below h.below) rfl (X0 3 rfl (rb h hF rfl))))
def qT (s:(List qav)) (f_0:Int):Nat→Int→Option (Flow Int Int)
 | 0,_=>none
 | n+1,i1 =>
  bif decide (i1<(s.length:Int)) then
   (idx s i1).bind fun y1 =>
   (qh3 n y1 f_0).bind fun r1 =>
   bif r1 then some (.ret i1) else
   qT s f_0 n (W64 (i1+1))
  else
   some (.nxt i1)
def qbk (n:Nat) (s:(List qav)) (f_0:Int):Option Int :=
 (qT s f_0 n 0).bind fun o=>match o with
 | .ret r=>some r
 | .nxt _ =>
  some (-1)
theorem qfg {s:(List qav)} {f_0:Int} (ha1:GoT.R w (old w) s cs1) {p2:Option Addr} (ha2:GoT.R w (old w) (some f_0) [.pointer p2]) {r:Int} (hF:qbk n s f_0=some r):RetV Tryz.prog 194 [GoT.v (List qav) cs1,.func (.func 266) #[] #[.pointer p2]] w r:=by
 obtain ⟨p1,k1,rfl,s1⟩:=ha1
 obtain ⟨b1,o_1,cs2,rfl,-,hr1,hc1⟩:=PtR.get ha2 rfl
 obtain rfl:=hr1
 refine zV 19 Tryz.func194 rfl fun h=>X0 11 rfl ?_
 obtain ⟨o1,hF,hK1⟩:=qe hF
 refine ql (rL (fun m e w'=>∃ (i1:Int),qT s f_0 m i1=some o1∧e=[(0,.slice p1 s.length k1),(1,.func (.func 266) #[] #[.pointer (some ⟨b1,o_1,none⟩)]),(7,.int .i64 (s.length:Int)),(8,.int .i64 i1)]∧SH w w' []) n ⟨_,hF,rfl,h⟩ rfl ?_)
 rintro m1 e1 w1 ⟨i1,hF,rfl,h⟩
 rcases m1 with _|m1
 ·cases hF
 refine X0 5 rfl (qk rfl hF ?_ ?_)<;>intro hF
 ·refine X0 13 rfl ?_
  obtain ⟨y1,hy1,hF,he1,b2,_,q1,cs3,hp1,hq1,hr2,hc3⟩:=s1.ix hF
  obtain ⟨p3,k2,p4,k3,rfl,s2,s3⟩:=qaL hr2
  refine zxe hp1 hq1 he1 rfl (zc 0 (hc3.below h.below) rfl (zcB h hF (qlc (qiE y1 (h.oldS s2) (h.oldS s3)) (h.old ha2)) rfl fun r1 w2 h hF=>qa5 (qk rfl hF ?_ ?_)))<;>intro hF
  ·refine X0 5 rfl ?_
   obtain rfl:=qc hF;replace hF:=hK1
   exact ri h hF rfl
  exact X0 6 rfl (rK ⟨_,hF,rfl,h⟩ rfl)
 refine qp rfl ?_
 obtain rfl:=qc hF;replace hF:=hK1
 exact X0 4 rfl (ri h hF rfl)
def qa4 (n:Nat) (s:(List qav)) (f_0:Int):Option Bool :=
 (qbk n s f_0).bind fun r1 =>
 some (decide (r1 ≥ 0))
theorem qeC {s:(List qav)} {f_0:Int} (ha1:GoT.R w (old w) s cs1) {p2:Option Addr} (ha2:GoT.R w (old w) (some f_0) [.pointer p2]) {r:Bool} (hF:qa4 n s f_0=some r):RetV Tryz.prog 146 [GoT.v (List qav) cs1,.func (.func 266) #[] #[.pointer p2]] w r:=by
 obtain ⟨p1,k1,rfl,s1⟩:=ha1
 obtain ⟨b1,o_1,cs2,rfl,-,hr1,hc1⟩:=PtR.get ha2 rfl
 obtain rfl:=hr1
 exact zV 9 Tryz.func146 rfl fun h=>X0 8 rfl (zcI h hF (qfg ⟨_,_,rfl,(h.oldS s1)⟩ (h.old ha2)) rfl fun r1 w1 h hF=>X0 3 rfl (rb h hF rfl))
def qcZ (n:Nat) (c:qt) (kind:Int):Option Bool :=
 (qa4 n c.Aq kind).bind fun r1 =>
 some r1
theorem qdX {c:qt} {kind:Int} (ha1:GoT.R w (old w) c cs1) {r:Bool} (hF:qcZ n c kind=some r):RetV Tryz.prog 247 [GoT.v qt cs1,.int .i64 kind] w r:=by
 obtain ⟨p1,k1,p2,k2,p3,k3,rfl,s1,s2,s3⟩:=qS ha1
 exact zV 9 Tryz.func247 rfl fun h=>zSR (qO h rfl rfl fun w1 bb1 h=>qO h rfl rfl fun w2 bb2 h=>X1 7 1 h rfl (zcB h hF (qeC ⟨_,_,rfl,(h.oldS s2)⟩ (qhM (x:=kind) 0 h rfl rfl)) rfl fun r1 w3 h hF=>X0 2 rfl (rb h hF rfl)))
def qa1 (a_0:qt):Nat→Int→Int→Option (Int × Int)
 | 0,_,_=>none
 | n+1,i1,i2 =>
  bif decide (i2<(a_0.Ap.length:Int)) then
   (idx a_0.Ap i2).bind fun y1 =>
   bif y1.Bb then qa1 a_0 n (W64 (i1+1)) (W64 (i2+1)) else
   qa1 a_0 n i1 (W64 (i2+1))
  else
   some (i1,i2)
def qfs (n:Nat) (a_0:qt):Option Bool :=
 (qa1 a_0 n 0 0).bind fun o=>match o with
 | (i1,_) =>
  bif (a_0.Ar==1) then
   bif (i1==0) then
    (qb8 n a_0).bind fun r1 =>
    (shlS 1 r1).bind fun y2 =>
    bif ((a_0.Ba.length:Int)==y2) then
     (qbm n a_0.Ba 0 1).bind fun r2 =>
     some r2
    else
     some false
   else
    some false
  else
   bif (a_0.Ar==2) then
    bif (i1==1) then
     bif ((a_0.Ba.length:Int)==0) then
      (qcZ n a_0 1).bind fun r3 =>
      bif (!r3) then
       (qcZ n a_0 2).bind fun r4 =>
       (qcZ n a_0 3).bind fun r5 =>
       some (!(r4==r5))
      else
       some false
     else
      some false
    else
     some false
   else
    bif (a_0.Ar==3) then
     bif (i1==1) then
      bif ((a_0.Ba.length:Int)==0) then
       (qcZ n a_0 1).bind fun r6 =>
       bif r6 then
        (qcZ n a_0 2).bind fun r7 =>
        bif r7 then
         (qcZ n a_0 3).bind fun r8 =>
         some (!r8)
        else
         some false
       else
        some false
      else
       some false
     else
      some false
    else
     some false
theorem qj4 {a_0:qt} (ha1:GoT.R w (old w) a_0 cs1) {r:Bool} (hF:qfs n a_0=some r):RetV Tryz.prog 235 [GoT.v qt cs1] w r:=by
 obtain ⟨p1,k1,p2,k2,p3,k3,rfl,s1,s2,s3⟩:=qS ha1
 refine zV 83 Tryz.func235 rfl fun h=>zSR (qO h rfl rfl fun w1 bb1 h=>X1 14 0 h rfl ?_)
 obtain ⟨o1,hF,hK1⟩:=qe hF
 refine ql (rL (fun m e w'=>∃ (i1:Int) (i2:Int),qa1 a_0 m i1 i2=some o1∧e=[(1,.pointer (some ⟨bb1,0,none⟩)),(3,.int .i64 i1),(7,.slice p1 a_0.Ap.length k1),(8,.int .i64 (a_0.Ap.length:Int)),(9,.int .i64 i2)]∧SH w w' [Ch.box bb1 (qy a_0 p1 p2 p3 k1 k2 k3) 201]) n ⟨_,_,hF,rfl,h⟩ rfl ?_)
 rintro m1 e1 w2 ⟨i1,i2,hF,rfl,h⟩
 rcases m1 with _|m1
 ·cases hF
 refine X0 5 rfl (qk rfl hF ?_ ?_)<;>intro hF
 ·refine zKSBSR ?_
  obtain ⟨y1,hy1,hF,he1,b1,_,q1,cs2,hp1,hq1,hr1,hc2⟩:=s1.ix hF
  obtain rfl:=qdR hr1
  refine zxe hp1 hq1 he1 rfl (zc 0 (hc2.below h.below) rfl (qB qb h rfl rfl rfl fun w3 bb2 h=>zs 0 h rfl fun w4 h=>X1 6 0 h rfl (qk rfl hF ?_ ?_)))<;>intro hF
  ·refine X0 10 rfl ?_
   replace h:=h.pick [1] rfl
   exact rK ⟨_,_,hF,rfl,h⟩ rfl
  refine X0 6 rfl ?_
  replace h:=h.pick [1] rfl
  exact rK ⟨_,_,hF,rfl,h⟩ rfl
 refine qp rfl ?_
 obtain rfl:=qc hF;replace hF:=hK1
 refine X1 12 0 h rfl (qk rfl hF ?_ ?_)<;>intro hF
 ·refine qf1 (rD (zd3 rfl (qbf (t:=24) hF rfl ?_ ?_)))<;>intro hF
  ·refine Y1 4 0 h rfl ?_
   refine Y1 4 0 h rfl ?_
   refine Y0 1 rfl ?_
   obtain ⟨r1,hr2,hF⟩:=qe hF
   refine qc7 r1 (vsI _) (cB 149 rfl) (fun _ hb=>qeV ((h.ext hb).old ha1) hr2) rfl rfl rfl rfl (Y0 1 rfl ?_)
   obtain ⟨y2,hx1,hF⟩:=qe hF
   obtain ⟨g1,hx1⟩:=qkK hx1
   refine d_v (fun _ hb=>qqz g1 rfl rfl) rfl ?_
   rw [hx1]
   refine Y0 4 rfl (qbf (t:=33) hF rfl ?_ ?_)<;>intro hF
   ·refine Y1 4 0 h rfl ?_
    refine Y0 1 rfl ?_
    obtain ⟨r2,hr3,hF⟩:=qe hF
    exact qc7 r2 (vsB _) (cB 81 rfl) (fun _ hb=>qbU ⟨_,_,rfl,((h.ext hb).oldS s3)⟩ hr3) rfl rfl rfl rfl (zd2 rfl (dN h fun w5 h=>rb h hF rfl))
   exact Y0 5 rfl (dN h fun w6 h=>rb h hF rfl)
  exact Y0 14 rfl (dN h fun w7 h=>rb h hF rfl)
 refine X0 5 rfl (qk rfl hF ?_ ?_)<;>intro hF
 ·refine qf1 (rD (zd3 rfl (qbf (t:=42) hF rfl ?_ ?_)))<;>intro hF
  ·refine Y1 4 0 h rfl ?_
   refine Y0 6 rfl (qbf (t:=48) hF rfl ?_ ?_)<;>intro hF
   ·refine Y1 2 0 h rfl ?_
    refine Y0 1 rfl ?_
    obtain ⟨r3,hr4,hF⟩:=qe hF
    refine qc7 r3 (vsB _) (cB 247 rfl) (fun _ hb=>qdX ((h.ext hb).old ha1) hr4) rfl rfl rfl rfl (Y0 4 rfl (qbf (t:=53) hF rfl ?_ ?_))<;>intro hF
    ·refine Y1 2 0 h rfl ?_
     refine Y0 1 rfl ?_
     obtain ⟨r4,hr5,hF⟩:=qe hF
     refine qc7 r4 (vsB _) (cB 247 rfl) (fun _ hb=>qdX ((h.ext hb).old ha1) hr5) rfl rfl rfl rfl (Y1 2 0 h rfl ?_)
     refine Y0 1 rfl ?_
     obtain ⟨r5,hr6,hF⟩:=qe hF
     exact qc7 r5 (vsB _) (cB 247 rfl) (fun _ hb=>qdX ((h.ext hb).old ha1) hr6) rfl rfl rfl rfl (Y0 4 rfl (dN h fun w8 h=>rb h hF rfl))
    exact Y0 7 rfl (dN h fun w9 h=>rb h hF rfl)
   exact Y0 12 rfl (dN h fun w10 h=>rb h hF rfl)
  exact Y0 18 rfl (dN h fun w11 h=>rb h hF rfl)
 refine X0 5 rfl (qk rfl hF ?_ ?_)<;>intro hF
 ·refine X0 5 rfl (qh (t:=64) hF rfl ?_ ?_)<;>intro hF
  ·refine X1 10 0 h rfl (qh (t:=70) hF rfl ?_ ?_)<;>intro hF
   ·refine X1 3 0 h rfl (zcB h hF (qdX (h.old ha1)) rfl fun r6 w12 h hF=>zp2 rfl (qh (t:=74) hF rfl ?_ ?_))<;>intro hF
    ·refine X1 3 0 h rfl (zcB h hF (qdX (h.old ha1)) rfl fun r7 w13 h hF=>zp2 rfl (qh (t:=78) hF rfl ?_ ?_))<;>intro hF
     ·exact X1 3 0 h rfl (zcB h hF (qdX (h.old ha1)) rfl fun r8 w14 h hF=>X0 5 rfl (rb h hF rfl))
     exact X0 6 rfl (rb h hF rfl)
    exact X0 10 rfl (rb h hF rfl)
   exact X0 14 rfl (rb h hF rfl)
  exact X0 20 rfl (rb h hF rfl)
 exact X0 6 rfl (rb h hF rfl)
def qiP (n:Nat) (c:qt):Option Bool :=
 (qhP n c.Au).bind fun r1 =>
 bif r1 then
  (qio n c.Ap).bind fun r2 =>
  bif r2 then
   (qfP n c).bind fun r3 =>
   bif r3 then
    (qaA n c.Br 0 100000).bind fun r4 =>
    bif r4 then
     (qaA n c.Bk 0 100000).bind fun r5 =>
     bif r5 then
      (qfs n c).bind fun r6 =>
      some r6
     else
      some false
    else
     some false
   else
    some false
  else
   some false
 else
  some false
theorem qne {c:qt} (ha1:GoT.R w (old w) c cs1) {r:Bool} (hF:qiP n c=some r):RetV Tryz.prog 213 [GoT.v qt cs1] w r:=by
 obtain ⟨p1,k1,p2,k2,p3,k3,rfl,s1,s2,s3⟩:=qS ha1
 refine zV 29 Tryz.func213 rfl fun h=>zSR (qO h rfl rfl fun w1 bb1 h=>X1 6 0 h rfl (zcB h hF qkg rfl fun r1 w2 h hF=>zp1 rfl (qh (t:=6) hF rfl ?_ ?_)))<;>intro hF
 ·refine X1 5 0 h rfl (zcB h hF (qmA ⟨_,_,rfl,(h.oldS s1)⟩) rfl fun r2 w3 h hF=>zp2 rfl (qh (t:=11) hF rfl ?_ ?_))<;>intro hF
  ·refine X1 3 0 h rfl (zcB h hF (qkj (h.old ha1)) rfl fun r3 w4 h hF=>zp2 rfl (qh (t:=15) hF rfl ?_ ?_))<;>intro hF
   ·refine X1 5 0 h rfl (zcB h hF qah rfl fun r4 w5 h hF=>zp2 rfl (qh (t:=20) hF rfl ?_ ?_))<;>intro hF
    ·refine X1 5 0 h rfl (zcB h hF qah rfl fun r5 w6 h hF=>zp2 rfl (qh (t:=25) hF rfl ?_ ?_))<;>intro hF
     ·exact X1 3 0 h rfl (zcB h hF (qj4 (h.old ha1)) rfl fun r6 w7 h hF=>X0 3 rfl (rb h hF rfl))
     exact X0 5 rfl (rb h hF rfl)
    exact X0 10 rfl (rb h hF rfl)
   exact X0 15 rfl (rb h hF rfl)
  exact X0 19 rfl (rb h hF rfl)
 exact X0 24 rfl (rb h hF rfl)
def qcp (l:qq):Nat→(List ByteArray)→Int→Option (Flow Bool ((List ByteArray) × Int))
 | 0,_,_=>none
 | n+1,x1,i1 =>
  bif decide (i1<(l.Aj.length:Int)) then
   (idx l.Aj i1).bind fun y1 =>
   (qiP n y1).bind fun r1 =>
   bif (!r1) then some (.ret false) else
   (appS x1 ([y1.Au]:List ByteArray)).bind fun x2 =>
   qcp l n x2 (W64 (i1+1))
  else
   some (.nxt (x1,i1))
def qhi (n:Nat) (l:qq):Option Bool :=
 (qcp l n ([]:List ByteArray) 0).bind fun o=>match o with
 | .ret r=>some r
 | .nxt (x1,_) =>
  bif decide ((l.Aj.length:Int)≤8) then
   (qdM n x1).bind fun r2 =>
   some r2
  else
   some false
theorem qls {l:qq} (ha1:GoT.R w (old w) l cs1) {r:Bool} (hF:qhi n l=some r):RetV Tryz.prog 182 [GoT.v qq cs1] w r:=by
 obtain ⟨p1,k1,rfl,s1⟩:=qbY ha1
 refine zV 30 Tryz.func182 rfl fun h=>zSR (qO h rfl rfl fun w1 bb1 h=>X1 14 0 h rfl ?_)
 replace h:=h.nil (α:=ByteArray)
 obtain ⟨o1,hF,hK1⟩:=qe hF
 refine ql (rL (fun m e w'=>∃ (S1:Nat→Prop) (p2:Option Addr) (ln1:Nat) (k2:Nat) (x1:(List ByteArray)) (i1:Int),qcp l m x1 i1=some o1∧e=[(1,.pointer (some ⟨bb1,0,none⟩)),(3,.slice p2 ln1 k2),(7,.slice p1 l.Aj.length k1),(8,.int .i64 (l.Aj.length:Int)),(9,.int .i64 i1)]∧SH w w' [Ch.own S1 (x1:List ByteArray) [.slice p2 ln1 k2],Ch.box bb1 [.slice p1 l.Aj.length k1] 26]) n ⟨_,_,_,_,_,_,hF,rfl,h⟩ rfl ?_)
 rintro m1 e1 w2 ⟨S1,p2,ln1,k2,x1,i1,hF,rfl,h⟩
 obtain rfl:=(h.sl 0 rfl).2
 rcases m1 with _|m1
 ·cases hF
 refine X0 5 rfl (qk rfl hF ?_ ?_)<;>intro hF
 ·refine zKSBSR ?_
  obtain ⟨y1,hy1,hF,he1,b1,_,q1,cs2,hp1,hq1,hr1,hc2⟩:=s1.ix hF
  obtain ⟨p3,k3,p4,k4,p5,k5,rfl,s2,s3,s4⟩:=qS hr1
  refine zxe hp1 hq1 he1 rfl (zc 0 (hc2.below h.below) rfl (qB qb h rfl rfl rfl fun w3 bb2 h=>zs 0 h rfl fun w4 h=>X1 5 0 h rfl (zcB h hF (qne (qkN y1 (h.oldS s2) (h.oldS s3) (h.oldS s4))) rfl fun r1 w5 h hF=>X0 2 rfl (qk rfl hF ?_ ?_))))<;>intro hF
  ·refine X0 4 rfl ?_
   obtain rfl:=qc hF;replace hF:=hK1
   exact rb h hF rfl
  refine X1 5 0 h rfl (qm qb [.tmp 18] _ ([y1.Au]:List ByteArray) h rfl rfl rfl rfl rfl rfl rfl rfl rfl ⟨rfl,trivial⟩ rfl fun w6 p6 S2 h=>?_)
  obtain ⟨x2,hx1,hF⟩:=qe hF
  obtain ⟨g1,hx1⟩:=qr hx1
  refine qaf qb 2 h rfl (h.sl 0 rfl).1 (h.sl 0 rfl).2 rfl rfl rfl rfl rfl rfl rfl rfl rfl g1 hx1 rfl fun w7 p7 k6 S3 h=>X0 7 rfl ?_
  replace h:=h.pick [2,3] rfl
  exact rK ⟨_,_,_,_,_,_,hF,rfl,h⟩ rfl
 refine qp rfl ?_
 obtain rfl:=qc hF;replace hF:=hK1
 refine X1 7 1 h rfl (qh (t:=26) hF rfl ?_ ?_)<;>intro hF
 ·exact X0 3 rfl (zcB h hF (qe4 (h.own 0 rfl)) rfl fun r2 w8 h hF=>X0 3 rfl (rb h hF rfl))
 exact X0 5 rfl (rb h hF rfl)
def qa7 (d:qg):Nat→(List ByteArray)→Int→Option ((List ByteArray) × Int)
 | 0,_,_=>none
 | n+1,x3,i2 =>
  bif decide (i2<(d.Ac.length:Int)) then
   (idx d.Ac i2).bind fun y2 =>
   (appS x3 ([y2.Au]:List ByteArray)).bind fun x4 =>
   qa7 d n x4 (W64 (i2+1))
  else
   some (x3,i2)
def qa6 (d:qg):Nat→(List ByteArray)→Int→Option ((List ByteArray) × Int)
 | 0,_,_=>none
 | n+1,x1,i1 =>
  bif decide (i1<(d.Ab.length:Int)) then
   (idx d.Ab i1).bind fun y1 =>
   (appS x1 ([y1.Au]:List ByteArray)).bind fun x2 =>
   qa6 d n x2 (W64 (i1+1))
  else
   some (x1,i1)
def qez (n:Nat) (d:qg):Option Bool :=
 (qa6 d n ([]:List ByteArray) 0).bind fun o=>match o with
 | (x1,_) =>
  (qa7 d n ([]:List ByteArray) 0).bind fun o=>match o with
  | (x3,_) =>
   bif decide ((x1.length:Int)≤14) then
    bif decide ((d.Ai.length:Int)≤30) then
     bif decide ((x3.length:Int)≤8) then
      (qdM n x1).bind fun r1 =>
      bif r1 then
       (qdM n d.Ai).bind fun r2 =>
       bif r2 then
        (qdM n x3).bind fun r3 =>
        some r3
       else
        some false
      else
       some false
     else
      some false
    else
     some false
   else
    some false
theorem qjd {d:qg} (ha1:GoT.R w (old w) d cs1) {r:Bool} (hF:qez n d=some r):RetV Tryz.prog 183 [GoT.v qg cs1] w r:=by
 obtain ⟨p1,k1,p2,k2,p3,k3,rfl,s1,s2,s3⟩:=qaF ha1
 refine zV 62 Tryz.func183 rfl fun h=>zSR (qO h rfl rfl fun w1 bb1 h=>X1 15 0 h rfl ?_)
 replace h:=h.nil (α:=ByteArray)
 obtain ⟨o1,hF,hK1⟩:=qe hF
 refine ql (rL (fun m e w'=>∃ (S1:Nat→Prop) (p4:Option Addr) (ln1:Nat) (k4:Nat) (x1:(List ByteArray)) (i1:Int),qa6 d m x1 i1=some o1∧e=[(1,.pointer (some ⟨bb1,0,none⟩)),(3,.slice p4 ln1 k4),(4,.slice none 0 0),(10,.slice p1 d.Ab.length k1),(11,.int .i64 (d.Ab.length:Int)),(12,.int .i64 i1)]∧SH w w' [Ch.own S1 (x1:List ByteArray) [.slice p4 ln1 k4],Ch.box bb1 (qaw d p1 p2 p3 k1 k2 k3) 31]) n ⟨_,_,_,_,_,_,hF,rfl,h⟩ rfl ?_)
 rintro m1 e1 w2 ⟨S1,p4,ln1,k4,x1,i1,hF,rfl,h⟩
 obtain rfl:=(h.sl 0 rfl).2
 rcases m1 with _|m1
 ·cases hF
 refine X0 5 rfl (qk rfl hF ?_ ?_)<;>intro hF
 ·refine zKSBSR ?_
  obtain ⟨y1,hy1,hF,he1,b1,_,q1,cs2,hp1,hq1,hr1,hc2⟩:=s1.ix hF
  obtain ⟨p5,k5,rfl,s4⟩:=qaB hr1
  refine zxe hp1 hq1 he1 rfl (zc 0 (hc2.below h.below) rfl (qB qb h rfl rfl rfl fun w3 bb2 h=>zs 0 h rfl fun w4 h=>X1 5 0 h rfl (qm qb [.tmp 18] _ ([y1.Au]:List ByteArray) h rfl rfl rfl rfl rfl rfl rfl rfl rfl ⟨rfl,trivial⟩ rfl fun w5 p6 S2 h=>?_)))
  obtain ⟨x2,hx1,hF⟩:=qe hF
  obtain ⟨g1,hx1⟩:=qr hx1
  refine qaf qb 2 h rfl (h.sl 0 rfl).1 (h.sl 0 rfl).2 rfl rfl rfl rfl rfl rfl rfl rfl rfl g1 hx1 rfl fun w6 p7 k6 S3 h=>X0 7 rfl ?_
  replace h:=h.pick [2,3] rfl
  exact rK ⟨_,_,_,_,_,_,hF,rfl,h⟩ rfl
 refine qp rfl ?_
 obtain rfl:=qc hF;replace hF:=hK1
 refine X1 8 1 h rfl ?_
 replace h:=h.nil (α:=ByteArray)
 obtain ⟨o2,hF,hK2⟩:=qe hF
 refine ql (rL (fun m e w'=>∃ (S4:Nat→Prop) (p8:Option Addr) (ln2:Nat) (k7:Nat) (x3:(List ByteArray)) (i2:Int),qa7 d m x3 i2=some o2∧e=[(1,.pointer (some ⟨bb1,0,none⟩)),(3,.slice p4 x1.length k4),(4,.slice p8 ln2 k7),(23,.slice p3 d.Ac.length k3),(24,.int .i64 (d.Ac.length:Int)),(25,.int .i64 i2)]∧SH w w' [Ch.own S4 (x3:List ByteArray) [.slice p8 ln2 k7],Ch.own S1 (x1:List ByteArray) [.slice p4 x1.length k4],Ch.box bb1 (qaw d p1 p2 p3 k1 k2 k3) 31]) n ⟨_,_,_,_,_,_,hF,rfl,h⟩ rfl ?_)
 rintro m2 e2 w7 ⟨S4,p8,ln2,k7,x3,i2,hF,rfl,h⟩
 obtain rfl:=(h.sl 0 rfl).2
 rcases m2 with _|m2
 ·cases hF
 refine X0 5 rfl (qk rfl hF ?_ ?_)<;>intro hF
 ·refine zKSBSR ?_
  obtain ⟨y2,hy2,hF,he2,b2,_,q2,cs3,hp2,hq2,hr2,hc4⟩:=s3.ix hF
  obtain rfl:=qdw hr2
  refine zxe hp2 hq2 he2 rfl (zc 0 (hc4.below h.below) rfl (qB qb h rfl rfl rfl fun w8 bb3 h=>zs 0 h rfl fun w9 h=>X1 5 0 h rfl (qm qb [.tmp 31] _ ([y2.Au]:List ByteArray) h rfl rfl rfl rfl rfl rfl rfl rfl rfl ⟨rfl,trivial⟩ rfl fun w10 p9 S5 h=>?_)))
  obtain ⟨x4,hx2,hF⟩:=qe hF
  obtain ⟨g2,hx2⟩:=qr hx2
  refine qaf qb 2 h rfl (h.sl 0 rfl).1 (h.sl 0 rfl).2 rfl rfl rfl rfl rfl rfl rfl rfl rfl g2 hx2 rfl fun w11 p10 k8 S6 h=>X0 7 rfl ?_
  replace h:=h.pick [2,3,4] rfl
  exact rK ⟨_,_,_,_,_,_,hF,rfl,h⟩ rfl
 refine qp rfl ?_
 obtain rfl:=qc hF;replace hF:=hK2
 refine X0 6 rfl (qh (t:=38) hF rfl ?_ ?_)<;>intro hF
 ·refine X1 10 2 h rfl (qh (t:=44) hF rfl ?_ ?_)<;>intro hF
  ·refine X0 8 rfl (qh (t:=49) hF rfl ?_ ?_)<;>intro hF
   ·refine X0 3 rfl (zcB h hF (qe4 (h.own 1 rfl)) rfl fun r1 w12 h hF=>zp2 rfl (qh (t:=53) hF rfl ?_ ?_))<;>intro hF
    ·refine X1 5 2 h rfl (zcB h hF (qe4 ⟨_,_,rfl,(h.oldS s2)⟩) rfl fun r2 w13 h hF=>zp2 rfl (qh (t:=58) hF rfl ?_ ?_))<;>intro hF
     ·exact X0 3 rfl (zcB h hF (qe4 (h.own 0 rfl)) rfl fun r3 w14 h hF=>X0 3 rfl (rb h hF rfl))
     exact X0 5 rfl (rb h hF rfl)
    exact X0 10 rfl (rb h hF rfl)
   exact X0 14 rfl (rb h hF rfl)
  exact X0 19 rfl (rb h hF rfl)
 exact X0 25 rfl (rb h hF rfl)
def qfF (_:Nat) (list:(List qt)):Option Int :=
 some (list.length:Int)
theorem qi8 {list:(List qt)} (ha1:GoT.R w (old w) list cs1) {r:Int} (hF:qfF n list=some r):RetV Tryz.prog 215 [GoT.v (List qt) cs1] w r:=by
 obtain ⟨p1,k1,rfl,s1⟩:=ha1
 exact zV 5 Tryz.func215 rfl fun h=>X0 10 rfl (ri h hF rfl)
def qgM (_:Nat) (list:(List ByteArray)):Option Int :=
 some (list.length:Int)
theorem qj3 {list:(List ByteArray)} (ha1:GoT.R w (old w) list cs1) {r:Int} (hF:qgM n list=some r):RetV Tryz.prog 217 [GoT.v (List ByteArray) cs1] w r:=by
 obtain ⟨p1,k1,rfl,s1⟩:=ha1
 exact zV 5 Tryz.func217 rfl fun h=>X0 10 rfl (ri h hF rfl)
def qdi (n:Nat) (d:qg) (net:Int):Option Bool :=
 (qgM n d.Ai).bind fun r1 =>
 (qaA n net 0 (W64 (r1-1))).bind fun r2 =>
 some r2
theorem qf2 {d:qg} {net:Int} (ha1:GoT.R w (old w) d cs1) {r:Bool} (hF:qdi n d net=some r):RetV Tryz.prog 185 [GoT.v qg cs1,.int .i64 net] w r:=by
 obtain ⟨p1,k1,p2,k2,p3,k3,rfl,s1,s2,s3⟩:=qaF ha1
 exact zV 11 Tryz.func185 rfl fun h=>zSR (qO h rfl rfl fun w1 bb1 h=>X1 7 0 h rfl (zcI h hF (qj3 ⟨_,_,rfl,(h.oldS s2)⟩) rfl fun r1 w2 h hF=>zp1 rfl (zcB h hF qah rfl fun r2 w3 h hF=>X0 2 rfl (rb h hF rfl))))
def qc0 (n:Nat) (net:Int) (v0:qg):Option Bool :=
 (qdi n v0 net).bind fun r1 =>
 some (!r1)
theorem qif {net:Int} {v0:qg} {p1:Option Addr} (ha1:GoT.R w (old w) (some v0) [.pointer p1]) {r:Bool} (hF:qc0 n net v0=some r):RetV Tryz.prog 216 [.int .i64 net,.pointer p1] w r:=by
 obtain ⟨b1,o_1,cs1,rfl,-,hr1,hc1⟩:=PtR.get ha1 rfl
 obtain ⟨p2,k1,p3,k2,p4,k3,rfl,s1,s2,s3⟩:=qaF hr1
 exact zV 8 Tryz.func216 rfl fun h=>X0 6 rfl (zc 0 (hc1.below h.below) rfl (zp1 rfl (zcB h hF (qf2 (qa2 v0 (h.oldS s1) (h.oldS s2) (h.oldS s3))) rfl fun r1 w1 h hF=>X0 3 rfl (rb h hF rfl))))
def qK (s:(List Int)) (f_0:qg):Nat→Int→Option (Flow Int Int)
 | 0,_=>none
 | n+1,i1 =>
  bif decide (i1<(s.length:Int)) then
   (idx s i1).bind fun y1 =>
   (qc0 n y1 f_0).bind fun r1 =>
   bif r1 then some (.ret i1) else
   qK s f_0 n (W64 (i1+1))
  else
   some (.nxt i1)
def qaT (n:Nat) (s:(List Int)) (f_0:qg):Option Int :=
 (qK s f_0 n 0).bind fun o=>match o with
 | .ret r=>some r
 | .nxt _ =>
  some (-1)
theorem qd5 {s:(List Int)} {f_0:qg} (ha1:GoT.R w (old w) s cs1) {p2:Option Addr} (ha2:GoT.R w (old w) (some f_0) [.pointer p2]) {r:Int} (hF:qaT n s f_0=some r):RetV Tryz.prog 193 [GoT.v (List Int) cs1,.func (.func 216) #[] #[.pointer p2]] w r:=by
 obtain ⟨p1,k1,rfl,s1⟩:=ha1
 obtain ⟨b1,o_1,cs2,rfl,-,hr1,hc1⟩:=PtR.get ha2 rfl
 obtain ⟨p3,k2,p4,k3,p5,k4,rfl,s2,s3,s4⟩:=qaF hr1
 refine zV 19 Tryz.func193 rfl fun h=>X0 11 rfl ?_
 obtain ⟨o1,hF,hK1⟩:=qe hF
 refine ql (rL (fun m e w'=>∃ (i1:Int),qK s f_0 m i1=some o1∧e=[(0,.slice p1 s.length k1),(1,.func (.func 216) #[] #[.pointer (some ⟨b1,o_1,none⟩)]),(7,.int .i64 (s.length:Int)),(8,.int .i64 i1)]∧SH w w' []) n ⟨_,hF,rfl,h⟩ rfl ?_)
 rintro m1 e1 w1 ⟨i1,hF,rfl,h⟩
 rcases m1 with _|m1
 ·cases hF
 refine X0 5 rfl (qk rfl hF ?_ ?_)<;>intro hF
 ·refine X0 13 rfl ?_
  obtain ⟨y1,hy1,hF,he1,b2,_,q1,cs3,hp1,hq1,rfl,hc3⟩:=s1.ix hF
  refine zxe hp1 hq1 he1 rfl (zc 0 (hc3.below h.below) rfl (zcB h hF (qif (h.old ha2)) rfl fun r1 w2 h hF=>qa5 (qk rfl hF ?_ ?_)))<;>intro hF
  ·refine X0 5 rfl ?_
   obtain rfl:=qc hF;replace hF:=hK1
   exact ri h hF rfl
  exact X0 6 rfl (rK ⟨_,hF,rfl,h⟩ rfl)
 refine qp rfl ?_
 obtain rfl:=qc hF;replace hF:=hK1
 exact X0 4 rfl (ri h hF rfl)
def qaM (n:Nat) (s:(List Int)) (f_0:qg):Option Bool :=
 (qaT n s f_0).bind fun r1 =>
 some (decide (r1 ≥ 0))
theorem qdB {s:(List Int)} {f_0:qg} (ha1:GoT.R w (old w) s cs1) {p2:Option Addr} (ha2:GoT.R w (old w) (some f_0) [.pointer p2]) {r:Bool} (hF:qaM n s f_0=some r):RetV Tryz.prog 141 [GoT.v (List Int) cs1,.func (.func 216) #[] #[.pointer p2]] w r:=by
 obtain ⟨p1,k1,rfl,s1⟩:=ha1
 obtain ⟨b1,o_1,cs2,rfl,-,hr1,hc1⟩:=PtR.get ha2 rfl
 obtain ⟨p3,k2,p4,k3,p5,k4,rfl,s2,s3,s4⟩:=qaF hr1
 exact zV 9 Tryz.func141 rfl fun h=>X0 8 rfl (zcI h hF (qd5 ⟨_,_,rfl,(h.oldS s1)⟩ (h.old ha2)) rfl fun r1 w1 h hF=>X0 3 rfl (rb h hF rfl))
def qdH (n:Nat) (d:qg) (l:qq) (x:qz):Option Bool :=
 (qfF n l.Aj).bind fun r1 =>
 (qaA n x.Az 0 (W64 (r1-1))).bind fun r2 =>
 bif r2 then
  (idx l.Aj x.Az).bind fun y1 =>
  bif ((x.Ai.length:Int)==(y1.Ap.length:Int)) then
   (qaM n x.Ai d).bind fun r3 =>
   some (!r3)
  else
   some false
 else
  some false
theorem qiJ {d:qg} {l:qq} {x:qz} (ha1:GoT.R w (old w) d cs1) (ha2:GoT.R w (old w) l cs2) (ha3:GoT.R w (old w) x cs3) {r:Bool} (hF:qdH n d l x=some r):RetV Tryz.prog 184 [GoT.v qg cs1,GoT.v qq cs2,GoT.v qz cs3] w r:=by
 obtain ⟨p1,k1,p2,k2,p3,k3,rfl,s1,s2,s3⟩:=qaF ha1
 obtain ⟨p4,k4,rfl,s4⟩:=qbY ha2
 obtain ⟨p5,k5,rfl,s5⟩:=qaB ha3
 refine zV 35 Tryz.func184 rfl fun h=>zSR (qO h rfl rfl fun w1 bb1 h=>qO h rfl rfl fun w2 bb2 h=>qO h rfl rfl fun w3 bb3 h=>X0 3 rfl (rD (Y1 2 0 h rfl ?_)))
 refine Y1 2 1 h rfl ?_
 obtain ⟨r1,hr1,hF⟩:=qe hF
 refine qc7 r1 (vsI _) (cB 215 rfl) (fun _ hb=>qi8 ⟨_,_,rfl,((h.ext hb).oldS s4)⟩ hr1) rfl rfl rfl rfl (zd1 rfl ?_)
 obtain ⟨r2,hr2,hF⟩:=qe hF
 refine qc7 r2 (vsB _) (cB 79 rfl) (fun _ hb=>qah  hr2) rfl rfl rfl rfl (zd1 rfl (qbf (t:=14) hF rfl ?_ ?_))<;>intro hF
 ·refine Y1 4 0 h rfl ?_
  refine Y1 6 1 h rfl ?_
  refine Y1 4 0 h rfl ?_
  refine Y0 1 rfl ?_
  obtain ⟨y1,hy1,hF,he1,b1,_,q1,cs4,hp1,hq1,hr3,hc1⟩:=s4.ix hF
  obtain ⟨p6,k6,p7,k7,p8,k8,rfl,s6,s7,s8⟩:=qS hr3
  refine zdxe hp1 hq1 he1 rfl (Y0 3 rfl (zdc 2 (hc1.below h.below) rfl (Y0 6 rfl (qbf (t:=28) hF rfl ?_ ?_))))<;>intro hF
  ·refine Y1 4 0 h rfl ?_
   refine Y0 3 rfl ?_
   obtain ⟨r3,hr4,hF⟩:=qe hF
   exact qc7 r3 (vsB _) (cB 141 rfl) (fun _ hb=>qdB ⟨_,_,rfl,((h.ext hb).oldS s5)⟩ (qhM (x:=d) 2 (h.ext hb) rfl ((h.ext hb).old ha1)) hr4) rfl rfl rfl rfl (Y0 4 rfl (dN h fun w4 h=>rb h hF rfl))
  exact Y0 7 rfl (dN h fun w5 h=>rb h hF rfl)
 exact Y0 21 rfl (dN h fun w6 h=>rb h hF rfl)
def qh6 (_:Nat) (a_n:Int):Option Bool :=
 some (a_n != 1)
theorem qld {a_n:Int}  {r:Bool} (hF:qh6 n a_n=some r):RetV Tryz.prog 187 [.int .i64 a_n] w r:=by
 exact zV 5 Tryz.func187 rfl fun h=>X0 10 rfl (rb h hF rfl)
def qag (s:(List Int)):Nat→Int→Option (Flow Int Int)
 | 0,_=>none
 | n+1,i1 =>
  bif decide (i1<(s.length:Int)) then
   (idx s i1).bind fun y1 =>
   (qh6 n y1).bind fun r1 =>
   bif r1 then some (.ret i1) else
   qag s n (W64 (i1+1))
  else
   some (.nxt i1)
def qbP (n:Nat) (s:(List Int)):Option Int :=
 (qag s n 0).bind fun o=>match o with
 | .ret r=>some r
 | .nxt _ =>
  some (-1)
theorem qfR {s:(List Int)} (ha1:GoT.R w (old w) s cs1) {r:Int} (hF:qbP n s=some r):RetV Tryz.prog 218 [GoT.v (List Int) cs1,.func (.func 187) #[] #[]] w r:=by
 obtain ⟨p1,k1,rfl,s1⟩:=ha1
 refine zV 19 Tryz.func218 rfl fun h=>X0 11 rfl ?_
 obtain ⟨o1,hF,hK1⟩:=qe hF
 refine ql (rL (fun m e w'=>∃ (i1:Int),qag s m i1=some o1∧e=[(0,.slice p1 s.length k1),(1,.func (.func 187) #[] #[]),(7,.int .i64 (s.length:Int)),(8,.int .i64 i1)]∧SH w w' []) n ⟨_,hF,rfl,h⟩ rfl ?_)
 rintro m1 e1 w1 ⟨i1,hF,rfl,h⟩
 rcases m1 with _|m1
 ·cases hF
 refine X0 5 rfl (qk rfl hF ?_ ?_)<;>intro hF
 ·refine X0 13 rfl ?_
  obtain ⟨y1,hy1,hF,he1,b1,_,q1,cs2,hp1,hq1,rfl,hc2⟩:=s1.ix hF
  refine zxe hp1 hq1 he1 rfl (zc 0 (hc2.below h.below) rfl (zcB h hF qld rfl fun r1 w2 h hF=>qa5 (qk rfl hF ?_ ?_)))<;>intro hF
  ·refine X0 5 rfl ?_
   obtain rfl:=qc hF;replace hF:=hK1
   exact ri h hF rfl
  exact X0 6 rfl (rK ⟨_,hF,rfl,h⟩ rfl)
 refine qp rfl ?_
 obtain rfl:=qc hF;replace hF:=hK1
 exact X0 4 rfl (ri h hF rfl)
def qby (n:Nat) (s:(List Int)):Option Bool :=
 (qbP n s).bind fun r1 =>
 some (decide (r1 ≥ 0))
theorem qfq {s:(List Int)} (ha1:GoT.R w (old w) s cs1) {r:Bool} (hF:qby n s=some r):RetV Tryz.prog 186 [GoT.v (List Int) cs1,.func (.func 187) #[] #[]] w r:=by
 obtain ⟨p1,k1,rfl,s1⟩:=ha1
 exact zV 9 Tryz.func186 rfl fun h=>X0 8 rfl (zcI h hF (qfR ⟨_,_,rfl,(h.oldS s1)⟩) rfl fun r1 w1 h hF=>X0 3 rfl (rb h hF rfl))
def qcc (a_1:qg):Nat→(List Int)→Int→Option (Flow Bool ((List Int) × Int))
 | 0,_,_=>none
 | n+1,x3,i2 =>
  bif decide (i2<(a_1.Ac.length:Int)) then
   (idx a_1.Ac i2).bind fun y5 =>
   (
    bif (y5.Bl != 1) then
     bif (y5.Bl != 2) then some true else
     (qdi n a_1 y5.Bo).bind fun r2 =>
     some (!r2)
    else
     (qdi n a_1 y5.Bo).bind fun r3 =>
     some (!r3)).bind fun b7 =>
   bif b7 then some (.ret false) else
   bif (y5.Bl==1) then
    (idx x3 y5.Bo).bind fun y6 =>
    (idx x3 y5.Bo).bind fun _ =>
    qcc a_1 n (setS x3 y5.Bo (W64 (y6+1))) (W64 (i2+1))
   else
    qcc a_1 n x3 (W64 (i2+1))
  else
   some (.nxt (x3,i2))
def qcO (a_0:qq) (a_1:qg):Nat→(List Int)→Int→Option (Flow Bool ((List Int) × Int))
 | 0,_,_=>none
 | n+1,x2,i1 =>
  bif decide (i1<(a_1.Ab.length:Int)) then
   (idx a_1.Ab i1).bind fun y1 =>
   (qdH n a_1 a_0 y1).bind fun r1 =>
   bif (!r1) then some (.ret false) else
   (idx y1.Ai (W64 ((y1.Ai.length:Int)-1))).bind fun y2 =>
   (idx x2 y2).bind fun y3 =>
   (idx x2 y2).bind fun _ =>
   qcO a_0 a_1 n (setS x2 y2 (W64 (y3+1))) (W64 (i1+1))
  else
   some (.nxt (x2,i1))
def qhH (n:Nat) (a_0:qq) (a_1:qg):Option Bool :=
 (
  (qhi n a_0).bind fun r5 =>
  bif (!r5) then some true else
  (qez n a_1).bind fun r6 =>
  some (!r6)).bind fun b1 =>
 bif b1 then some false else
 (mkS (a_1.Ai.length:Int) (0:Int)).bind fun x1 =>
 (qcO a_0 a_1 n x1 0).bind fun o=>match o with
 | .ret r=>some r
 | .nxt (x2,_) =>
  (qcc a_1 n x2 0).bind fun o=>match o with
  | .ret r=>some r
  | .nxt (x3,_) =>
   (qby n x3).bind fun r4 =>
   some (!r4)
theorem ql3 {a_0:qq} {a_1:qg} (ha1:GoT.R w (old w) a_0 cs1) (ha2:GoT.R w (old w) a_1 cs2) {r:Bool} (hF:qhH n a_0 a_1=some r):RetV Tryz.prog 132 [GoT.v qq cs1,GoT.v qg cs2] w r:=by
 obtain ⟨p1,k1,rfl,s1⟩:=qbY ha1
 obtain ⟨p2,k2,p3,k3,p4,k4,rfl,s2,s3,s4⟩:=qaF ha2
 refine zV 84 Tryz.func132 rfl fun h=>zSR (qO h rfl rfl fun w1 bb1 h=>qO h rfl rfl fun w2 bb2 h=>X0 4 rfl ?_)
 obtain ⟨KF2,hKF2,o4,hF,hK4⟩:=bindE hF
 refine qa8 (fun e w'=>∃ (b1:Bool),KF2 b1=some r∧e=[(2,.pointer (some ⟨bb1,0,none⟩)),(3,.pointer (some ⟨bb2,0,none⟩)),(17,.bool b1)]∧SH w w' [Ch.box bb2 (qaw a_1 p2 p3 p4 k2 k3 k4) 31,Ch.box bb1 [.slice p1 a_0.Aj.length k1] 26]) ?_ ?_
 ·refine X1 2 1 h rfl (zcB h hF (qls (h.old ha1)) rfl fun r5 w17 h hF=>zp2 rfl (qh (t:=13) hF rfl ?_ ?_))<;>intro hF
  ·refine X0 5 rfl ?_
   obtain rfl:=qc hF
   exact rG ⟨_,hK4,rfl,h⟩ rfl
  refine X1 3 0 h rfl (zcB h hF (qjd (h.old ha2)) rfl fun r6 w18 h hF=>X0 4 rfl ?_)
  obtain rfl:=qc hF
  exact rG ⟨_,hK4,rfl,h⟩ rfl
 rintro e4 w19 ⟨b1,hF,rfl,h⟩
 subst hKF2
 refine qk rfl hF ?_ ?_<;>intro hF
 ·exact X0 4 rfl (rb h hF rfl)
 refine X1 6 0 h rfl ?_
 obtain ⟨x1,hx1,hF⟩:=qe hF
 obtain ⟨g1,g2,hx1⟩:=qfx hx1
 refine qgC qb Int h rfl rfl rfl rfl rfl rfl rfl rfl rfl g1 g2 hx1 rfl fun w3 S1 p5 h=>X1 10 1 h rfl ?_
 obtain ⟨o1,hF,hK1⟩:=qe hF
 refine ql (rL (fun m e w'=>∃ (x2:(List Int)) (i1:Int),qcO a_0 a_1 m x2 i1=some o1∧e=[(2,.pointer (some ⟨bb1,0,none⟩)),(3,.pointer (some ⟨bb2,0,none⟩)),(5,.slice p5 x1.length x1.length),(23,.slice p2 a_1.Ab.length k2),(24,.int .i64 (a_1.Ab.length:Int)),(25,.int .i64 i1)]∧SH w w' [Ch.own S1 (x2:List Int) [.slice p5 x1.length x1.length],Ch.box bb2 (qaw a_1 p2 p3 p4 k2 k3 k4) 31,Ch.box bb1 [.slice p1 a_0.Aj.length k1] 26]) n ⟨_,_,hF,rfl,h⟩ rfl ?_)
 rintro m1 e1 w4 ⟨x2,i1,hF,rfl,h⟩
 rcases m1 with _|m1
 ·cases hF
 refine X0 5 rfl (qk rfl hF ?_ ?_)<;>intro hF
 ·refine zKSBSR ?_
  obtain ⟨y1,hy1,hF,he1,b2,_,q1,cs3,hp1,hq1,hr1,hc3⟩:=s2.ix hF
  obtain ⟨p6,k5,rfl,s5⟩:=qaB hr1
  refine zxe hp1 hq1 he1 rfl (zc 0 (hc3.below h.below) rfl (qB qb h rfl rfl rfl fun w5 bb3 h=>zs 0 h rfl fun w6 h=>X3 7 2 3 0 h rfl (zcB h hF (qiJ (h.old ha2) (h.old ha1) (qk8 y1 (h.oldS s5))) rfl fun r1 w7 h hF=>X0 2 rfl (qk rfl hF ?_ ?_))))<;>intro hF
  ·refine X0 4 rfl ?_
   obtain rfl:=qc hF;replace hF:=hK1
   exact rb h hF rfl
  refine X2 9 0 0 h rfl ?_
  obtain ⟨y2,hy2,hF,he2,b3,_,q2,cs4,hp2,hq2,rfl,hc5⟩:=s5.ix hF
  refine zxe hp2 hq2 he2 rfl (zc 0 (hc5.below h.below) rfl ?_)
  obtain ⟨y3,hy3,hF,he3,b4,_,q3,cs5,hp3,hq3,rfl,hc6⟩:=(h.sl 1 rfl).1.ix hF
  refine zx hp3 hq3 ⟨he3.1,qI he3.2.1 (h.sl 1 rfl).2⟩ rfl (zc 0 hc6 rfl (zp1 rfl ?_))
  obtain ⟨y4,hy4,hF,he4,b5,_,q4,cs6,hp4,hq4,rfl,hc7⟩:=(h.sl 1 rfl).1.ix hF
  refine zx hp4 hq4 ⟨he4.1,qI he4.2.1 (h.sl 1 rfl).2⟩ rfl (qbE qb 1 0 (W64 (y3+1)) h rfl hy4 hp4 hq4 rfl hc7 rfl rfl rfl rfl rfl rfl rfl fun w8 h=>X0 6 rfl ?_)
  replace h:=h.pick [1,2,3] rfl
  exact rK ⟨_,_,hF,rfl,h⟩ rfl
 refine qp rfl ?_
 obtain rfl:=qc hF;replace hF:=hK1
 refine X1 8 1 h rfl ?_
 obtain ⟨o2,hF,hK2⟩:=qe hF
 refine ql ?_
 replace h:=h.pick [0,1] rfl
 refine rL (fun m e w'=>∃ (x3:(List Int)) (i2:Int),qcc a_1 m x3 i2=some o2∧e=[(3,.pointer (some ⟨bb2,0,none⟩)),(5,.slice p5 x1.length x1.length),(49,.slice p4 a_1.Ac.length k4),(50,.int .i64 (a_1.Ac.length:Int)),(51,.int .i64 i2)]∧SH w w' [Ch.own S1 (x3:List Int) [.slice p5 x1.length x1.length],Ch.box bb2 (qaw a_1 p2 p3 p4 k2 k3 k4) 31]) n ⟨_,_,hF,rfl,h⟩ rfl ?_
 rintro m2 e2 w9 ⟨x3,i2,hF,rfl,h⟩
 rcases m2 with _|m2
 ·cases hF
 refine X0 5 rfl (qk rfl hF ?_ ?_)<;>intro hF
 ·refine zKSBSR ?_
  obtain ⟨y5,hy5,hF,he5,b6,_,q5,cs7,hp5,hq5,hr6,hc9⟩:=s4.ix hF
  obtain rfl:=qdw hr6
  refine zxe hp5 hq5 he5 rfl (zc 0 (hc9.below h.below) rfl (qB qb h rfl rfl rfl fun w10 bb4 h=>zs 0 h rfl fun w11 h=>zNSS ?_))
  obtain ⟨KF1,hKF1,o3,hF,hK3⟩:=bindE hF
  refine qa8 (fun e w'=>∃ (b7:Bool),KF1 b7=some o2∧e=[(3,.pointer (some ⟨bb2,0,none⟩)),(5,.slice p5 x1.length x1.length),(9,.pointer (some ⟨bb4,0,none⟩)),(49,.slice p4 a_1.Ac.length k4),(50,.int .i64 (a_1.Ac.length:Int)),(51,.int .i64 i2),(69,.bool b7)]∧SH w w' [Ch.box bb4 (qoE y5) 155,Ch.own S1 (x3:List Int) [.slice p5 x1.length x1.length],Ch.box bb2 (qaw a_1 p2 p3 p4 k2 k3 k4) 31]) ?_ ?_
  ·refine X1 5 0 h rfl (qh (t:=58) hF rfl ?_ ?_)<;>intro hF
   ·refine X1 8 0 h rfl (qh (t:=63) hF rfl ?_ ?_)<;>intro hF
    ·refine X0 7 rfl ?_
     obtain rfl:=qc hF
     exact rG ⟨_,hK3,rfl,h⟩ rfl
    refine X2 7 2 0 h rfl (zcB h hF (qf2 (h.old ha2)) rfl fun r2 w13 h hF=>X0 4 rfl ?_)
    obtain rfl:=qc hF
    exact rG ⟨_,hK3,rfl,h⟩ rfl
   refine X2 12 2 0 h rfl (zcB h hF (qf2 (h.old ha2)) rfl fun r3 w14 h hF=>X0 4 rfl ?_)
   obtain rfl:=qc hF
   exact rG ⟨_,hK3,rfl,h⟩ rfl
  rintro e3 w15 ⟨b7,hF,rfl,h⟩
  subst hKF1
  refine qk rfl hF ?_ ?_<;>intro hF
  ·refine X0 4 rfl ?_
   obtain rfl:=qc hF;replace hF:=hK2
   exact rb h hF rfl
  refine X1 7 0 h rfl (qk rfl hF ?_ ?_)<;>intro hF
  ·refine X1 4 0 h rfl ?_
   obtain ⟨y6,hy6,hF,he6,b8,_,q6,cs8,hp6,hq6,rfl,hc12⟩:=(h.sl 1 rfl).1.ix hF
   refine zx hp6 hq6 ⟨he6.1,qI he6.2.1 (h.sl 1 rfl).2⟩ rfl (zc 0 hc12 rfl (zp1 rfl ?_))
   obtain ⟨y7,hy7,hF,he7,b9,_,q7,cs9,hp7,hq7,rfl,hc13⟩:=(h.sl 1 rfl).1.ix hF
   refine zx hp7 hq7 ⟨he7.1,qI he7.2.1 (h.sl 1 rfl).2⟩ rfl (qbE qb 1 0 (W64 (y6+1)) h rfl hy7 hp7 hq7 rfl hc13 rfl rfl rfl rfl rfl rfl rfl fun w12 h=>X0 6 rfl ?_)
   replace h:=h.pick [1,2] rfl
   exact rK ⟨_,_,hF,rfl,h⟩ rfl
  refine X0 6 rfl ?_
  replace h:=h.pick [1,2] rfl
  exact rK ⟨_,_,hF,rfl,h⟩ rfl
 refine qp rfl ?_
 obtain rfl:=qc hF;replace hF:=hK2
 exact X0 3 rfl (zcB h hF (qfq (h.own 0 rfl)) rfl fun r4 w16 h hF=>X0 3 rfl (rb h hF rfl))
def qbv (i1:Int) (y1:qz):Nat→(List Tplace)→Int→Option ((List Tplace) × Int)
 | 0,_,_=>none
 | n+1,x2,i2 =>
  bif decide (i2<(y1.Ai.length:Int)) then
   (idx y1.Ai i2).bind fun y2 =>
   (appS x2 ([(⟨i1,i2,y2,(i2==(W64 ((y1.Ai.length:Int)-1)))⟩:Tplace)]:List Tplace)).bind fun x3 =>
   qbv i1 y1 n x3 (W64 (i2+1))
  else
   some (x2,i2)
def qbu (d:qg):Nat→(List Tplace)→Int→Option ((List Tplace) × Int)
 | 0,_,_=>none
 | n+1,x4,i3 =>
  bif decide (i3<(d.Ac.length:Int)) then
   (idx d.Ac i3).bind fun y3 =>
   (appS x4 ([(⟨(-1),i3,y3.Bo,(y3.Bl==1)⟩:Tplace)]:List Tplace)).bind fun x5 =>
   qbu d n x5 (W64 (i3+1))
  else
   some (x4,i3)
def qbt (d:qg):Nat→(List Tplace)→Int→Option ((List Tplace) × Int)
 | 0,_,_=>none
 | n+1,x1,i1 =>
  bif decide (i1<(d.Ab.length:Int)) then
   (idx d.Ab i1).bind fun y1 =>
   (qbv i1 y1 n x1 0).bind fun o=>match o with
   | (x2,_) =>
    qbt d n x2 (W64 (i1+1))
  else
   some (x1,i1)
def qb3 (n:Nat) (d:qg):Option (List Tplace) :=
 (qbt d n ([]:List Tplace) 0).bind fun o=>match o with
 | (x1,_) =>
  (qbu d n x1 0).bind fun o=>match o with
  | (x4,_) =>
   some x4
theorem qeb {d:qg} (ha1:GoT.R w (old w) d cs1) {r:(List Tplace)} (hF:qb3 n d=some r):RetV Tryz.prog 133 [GoT.v qg cs1] w r:=by
 obtain ⟨p1,k1,p2,k2,p3,k3,rfl,s1,s2,s3⟩:=qaF ha1
 refine zV 61 Tryz.func133 rfl fun h=>zSR (qO h rfl rfl fun w1 bb1 h=>X1 14 0 h rfl ?_)
 replace h:=h.nil (α:=Tplace)
 obtain ⟨o1,hF,hK1⟩:=qe hF
 refine ql (rL (fun m e w'=>∃ (S1:Nat→Prop) (p4:Option Addr) (ln1:Nat) (k4:Nat) (x1:(List Tplace)) (i1:Int),qbt d m x1 i1=some o1∧e=[(1,.pointer (some ⟨bb1,0,none⟩)),(3,.slice p4 ln1 k4),(11,.slice p1 d.Ab.length k1),(12,.int .i64 (d.Ab.length:Int)),(13,.int .i64 i1)]∧SH w w' [Ch.own S1 (x1:List Tplace) [.slice p4 ln1 k4],Ch.box bb1 (qaw d p1 p2 p3 k1 k2 k3) 31]) n ⟨_,_,_,_,_,_,hF,rfl,h⟩ rfl ?_)
 rintro m1 e1 w2 ⟨S1,p4,ln1,k4,x1,i1,hF,rfl,h⟩
 obtain rfl:=(h.sl 0 rfl).2
 rcases m1 with _|m1
 ·cases hF
 refine X0 5 rfl (qk rfl hF ?_ ?_)<;>intro hF
 ·refine X0 6 rfl ?_
  obtain ⟨y1,hy1,hF,he1,b1,_,q1,cs2,hp1,hq1,hr1,hc2⟩:=s1.ix hF
  obtain ⟨p5,k5,rfl,s4⟩:=qaB hr1
  refine zxe hp1 hq1 he1 rfl (zc 0 (hc2.below h.below) rfl (qB qb h rfl rfl rfl fun w3 bb2 h=>zp1 rfl (zs 0 h rfl fun w4 h=>X1 8 0 h rfl ?_)))
  obtain ⟨o2,hF,hK2⟩:=qe hF
  refine ql (rL (fun m e w'=>∃ (S2:Nat→Prop) (p6:Option Addr) (ln2:Nat) (k6:Nat) (x2:(List Tplace)) (i2:Int),qbv i1 y1 m x2 i2=some o2∧e=[(1,.pointer (some ⟨bb1,0,none⟩)),(3,.slice p6 ln2 k6),(4,.int .i64 i1),(5,.pointer (some ⟨bb2,0,none⟩)),(11,.slice p1 d.Ab.length k1),(12,.int .i64 (d.Ab.length:Int)),(13,.int .i64 i1),(19,.slice p5 y1.Ai.length k5),(20,.int .i64 (y1.Ai.length:Int)),(21,.int .i64 i2)]∧SH w w' [Ch.box bb2 (qhO y1 p5 k5) 191,Ch.own S2 (x2:List Tplace) [.slice p6 ln2 k6],Ch.box bb1 (qaw d p1 p2 p3 k1 k2 k3) 31]) m1 ⟨_,_,_,_,_,_,hF,rfl,h⟩ rfl ?_)
  rintro m2 e2 w5 ⟨S2,p6,ln2,k6,x2,i2,hF,rfl,h⟩
  obtain rfl:=(h.sl 1 rfl).2
  rcases m2 with _|m2
  ·cases hF
  refine X0 5 rfl (qk rfl hF ?_ ?_)<;>intro hF
  ·refine X0 6 rfl ?_
   obtain ⟨y2,hy2,hF,he2,b2,_,q2,cs3,hp2,hq2,rfl,hc4⟩:=s4.ix hF
   refine zxe hp2 hq2 he2 rfl (zc 0 (hc4.below h.below) rfl (X1 14 0 h rfl (r_v (qat qb [0,1,2,3] [.tmp 27,.tmp 28,.tmp 29,.tmp 35] rfl rfl rfl rfl rfl rfl rfl rfl) rfl (qm qb [.tmp 36] _ ([(⟨i1,i2,y2,(i2==(W64 ((y1.Ai.length:Int)-1)))⟩:Tplace)]:List Tplace) h rfl rfl rfl rfl rfl rfl rfl rfl rfl ⟨(qgO (⟨i1,i2,y2,(i2==(W64 ((y1.Ai.length:Int)-1)))⟩:Tplace)),trivial⟩ rfl fun w6 p7 S3 h=>?_))))
   obtain ⟨x3,hx1,hF⟩:=qe hF
   obtain ⟨g1,hx1⟩:=qr hx1
   refine qaf qb 2 h rfl (h.sl 0 rfl).1 (h.sl 0 rfl).2 rfl rfl rfl rfl rfl rfl rfl rfl rfl g1 hx1 rfl fun w7 p8 k7 S4 h=>X0 7 rfl ?_
   replace h:=h.pick [1,2,3] rfl
   exact rK ⟨_,_,_,_,_,_,hF,rfl,h⟩ rfl
  refine qp rfl ?_
  obtain rfl:=qc hF;replace hF:=hK2
  refine X0 5 rfl ?_
  replace h:=h.pick [1,2] rfl
  exact rK ⟨_,_,_,_,_,_,hF,rfl,h⟩ rfl
 refine qp rfl ?_
 obtain rfl:=qc hF;replace hF:=hK1
 refine X1 8 1 h rfl ?_
 obtain ⟨o3,hF,hK3⟩:=qe hF
 refine ql ?_
 replace h:=h.pick [0] rfl
 refine rL (fun m e w'=>∃ (S5:Nat→Prop) (p9:Option Addr) (ln3:Nat) (k8:Nat) (x4:(List Tplace)) (i3:Int),qbu d m x4 i3=some o3∧e=[(3,.slice p9 ln3 k8),(42,.slice p3 d.Ac.length k3),(43,.int .i64 (d.Ac.length:Int)),(44,.int .i64 i3)]∧SH w w' [Ch.own S5 (x4:List Tplace) [.slice p9 ln3 k8]]) n ⟨_,_,_,_,_,_,hF,rfl,h⟩ rfl ?_
 rintro m3 e3 w8 ⟨S5,p9,ln3,k8,x4,i3,hF,rfl,h⟩
 obtain rfl:=(h.sl 0 rfl).2
 rcases m3 with _|m3
 ·cases hF
 refine X0 5 rfl (qk rfl hF ?_ ?_)<;>intro hF
 ·refine X0 6 rfl ?_
  obtain ⟨y3,hy3,hF,he3,b3,_,q3,cs4,hp3,hq3,hr3,hc6⟩:=s3.ix hF
  obtain rfl:=qdw hr3
  refine zxe hp3 hq3 he3 rfl (zc 0 (hc6.below h.below) rfl (qB qb h rfl rfl rfl fun w9 bb3 h=>zp1 rfl (zs 0 h rfl fun w10 h=>X2 9 0 0 h rfl (r_v (qat qb [0,1,2,3] [.const (.int .i64 (-1)),.tmp 50,.tmp 52,.tmp 55] rfl rfl rfl rfl rfl rfl rfl rfl) rfl (qm qb [.tmp 56] _ ([(⟨(-1),i3,y3.Bo,(y3.Bl==1)⟩:Tplace)]:List Tplace) h rfl rfl rfl rfl rfl rfl rfl rfl rfl ⟨(qgO (⟨(-1),i3,y3.Bo,(y3.Bl==1)⟩:Tplace)),trivial⟩ rfl fun w11 p10 S6 h=>?_)))))
  obtain ⟨x5,hx2,hF⟩:=qe hF
  obtain ⟨g2,hx2⟩:=qr hx2
  refine qaf qb 2 h rfl (h.sl 0 rfl).1 (h.sl 0 rfl).2 rfl rfl rfl rfl rfl rfl rfl rfl rfl g2 hx2 rfl fun w12 p11 k9 S7 h=>X0 7 rfl ?_
  replace h:=h.pick [2] rfl
  exact rK ⟨_,_,_,_,_,_,hF,rfl,h⟩ rfl
 refine qp rfl ?_
 obtain rfl:=qc hF;replace hF:=hK3
 refine X0 5 rfl ?_
 obtain rfl:=qc hF
 exact rO 0 h rfl ⟨rfl,trivial⟩
def qa3 (a_w:qae):Nat→Int→Option (Flow Bool Int)
 | 0,_=>none
 | n+1,i1 =>
  bif decide (i1<(a_w.Ak.length:Int)) then
   (idx a_w.Ak i1).bind fun y1 =>
   bif (i1==0) then
    bif (y1 != (-1)) then some (.ret false) else
    (idx a_w.Bh 0).bind fun y2 =>
    bif (y2 != 0) then some (.ret false) else
    bif decide (i1 > 0) then
     (qaA n y1 0 (W64 (i1-1))).bind fun r1 =>
     bif (!r1) then some (.ret false) else
     qa3 a_w n (W64 (i1+1))
    else
     qa3 a_w n (W64 (i1+1))
   else
    bif decide (i1 > 0) then
     (qaA n y1 0 (W64 (i1-1))).bind fun r2 =>
     bif (!r2) then some (.ret false) else
     qa3 a_w n (W64 (i1+1))
    else
     qa3 a_w n (W64 (i1+1))
  else
   some (.nxt i1)
def qgn (n:Nat) (a_w:qae):Option Bool :=
 (qa3 a_w n 0).bind fun o=>match o with
 | .ret r=>some r
 | .nxt _ =>
  some true
theorem qk6 {a_w:qae} (ha1:GoT.R w (old w) a_w cs1) {r:Bool} (hF:qgn n a_w=some r):RetV Tryz.prog 188 [GoT.v qae cs1] w r:=by
 obtain ⟨p1,k1,p2,k2,p3,k3,p4,k4,rfl,s1,s2,s3,s4⟩:=qcm ha1
 refine zV 38 Tryz.func188 rfl fun h=>zSR (qO h rfl rfl fun w1 bb1 h=>X1 10 0 h rfl ?_)
 obtain ⟨o1,hF,hK1⟩:=qe hF
 refine ql (rL (fun m e w'=>∃ (i1:Int),qa3 a_w m i1=some o1∧e=[(1,.pointer (some ⟨bb1,0,none⟩)),(6,.slice p1 a_w.Ak.length k1),(7,.int .i64 (a_w.Ak.length:Int)),(8,.int .i64 i1)]∧SH w w' [Ch.box bb1 (qgH a_w p1 p2 p3 p4 k1 k2 k3 k4) 148]) n ⟨_,hF,rfl,h⟩ rfl ?_)
 rintro m1 e1 w2 ⟨i1,hF,rfl,h⟩
 rcases m1 with _|m1
 ·cases hF
 refine X0 5 rfl (qk rfl hF ?_ ?_)<;>intro hF
 ·refine X0 6 rfl ?_
  obtain ⟨y1,hy1,hF,he1,b1,_,q1,cs2,hp1,hq1,rfl,hc2⟩:=s1.ix hF
  refine zxe hp1 hq1 he1 rfl (zc 0 (hc2.below h.below) rfl (X0 8 rfl (qh (t:=15) hF rfl ?_ ?_)))<;>intro hF
  ·refine X0 6 rfl (qh (t:=18) hF rfl ?_ ?_)<;>intro hF
   ·refine X0 20 rfl (qdF rfl rfl (X0 4 rfl ?_))
    obtain rfl:=qc hF;replace hF:=hK1
    exact rb h hF rfl
   refine X1 5 0 h rfl ?_
   obtain ⟨y2,hy2,hF,he2,b2,_,q2,cs3,hp2,hq2,rfl,hc3⟩:=s2.ix hF
   refine zxe hp2 hq2 he2 rfl (X0 1 rfl (zc 0 (hc3.below h.below) rfl (X0 6 rfl (qh (t:=26) hF rfl ?_ ?_))))<;>intro hF
   ·refine X0 11 rfl (qdF rfl rfl (X0 4 rfl ?_))
    obtain rfl:=qc hF;replace hF:=hK1
    exact rb h hF rfl
   refine X0 6 rfl (qh (t:=29) hF rfl ?_ ?_)<;>intro hF
   ·refine X0 7 rfl (zcB h hF qah rfl fun r1 w3 h hF=>X0 6 rfl (qk rfl hF ?_ ?_))<;>intro hF
    ·refine X0 4 rfl ?_
     obtain rfl:=qc hF;replace hF:=hK1
     exact rb h hF rfl
    exact X0 6 rfl (rK ⟨_,hF,rfl,h⟩ rfl)
   exact X0 9 rfl (qbJ rfl rfl (X0 6 rfl (rK ⟨_,hF,rfl,h⟩ rfl)))
  refine X0 17 rfl (qh (t:=29) hF rfl ?_ ?_)<;>intro hF
  ·refine X0 7 rfl (zcB h hF qah rfl fun r2 w4 h hF=>X0 6 rfl (qk rfl hF ?_ ?_))<;>intro hF
   ·refine X0 4 rfl ?_
    obtain rfl:=qc hF;replace hF:=hK1
    exact rb h hF rfl
   exact X0 6 rfl (rK ⟨_,hF,rfl,h⟩ rfl)
  exact X0 9 rfl (qbJ rfl rfl (X0 6 rfl (rK ⟨_,hF,rfl,h⟩ rfl)))
 refine qp rfl ?_
 obtain rfl:=qc hF;replace hF:=hK1
 exact X0 4 rfl (rb h hF rfl)
def qiT (n:Nat) (a_w:qae) (sinks:Int):Option Bool :=
 (qV n a_w.Ak).bind fun r1 =>
 (qaA n r1 1 8).bind fun r2 =>
 bif r2 then
  (qV n a_w.Bh).bind fun r3 =>
  bif (r3==r1) then
   (qV n a_w.Bd).bind fun r4 =>
   bif (r4==r1) then
    (qgn n a_w).bind fun r5 =>
    bif r5 then
     (qbm n a_w.Bh 0 1000).bind fun r6 =>
     bif r6 then
      (qbm n a_w.Bd 0 500).bind fun r7 =>
      bif r7 then
       (qV n a_w.Ay).bind fun r8 =>
       bif (r8==sinks) then
        (qbm n a_w.Ay 0 (W64 (r1-1))).bind fun r9 =>
        some r9
       else
        some false
      else
       some false
     else
      some false
    else
     some false
   else
    some false
  else
   some false
 else
  some false
theorem qm4 {a_w:qae} {sinks:Int} (ha1:GoT.R w (old w) a_w cs1) {r:Bool} (hF:qiT n a_w sinks=some r):RetV Tryz.prog 134 [GoT.v qae cs1,.int .i64 sinks] w r:=by
 obtain ⟨p1,k1,p2,k2,p3,k3,p4,k4,rfl,s1,s2,s3,s4⟩:=qcm ha1
 refine zV 53 Tryz.func134 rfl fun h=>zSR (qO h rfl rfl fun w1 bb1 h=>X1 6 0 h rfl (zcI h hF (qaJ ⟨_,_,rfl,(h.oldS s1)⟩) rfl fun r1 w2 h hF=>X0 5 rfl (zcB h hF qah rfl fun r2 w3 h hF=>zp1 rfl (qh (t:=11) hF rfl ?_ ?_))))<;>intro hF
 ·refine X1 5 0 h rfl (zcI h hF (qaJ ⟨_,_,rfl,(h.oldS s2)⟩) rfl fun r3 w4 h hF=>X0 6 rfl (qh (t:=18) hF rfl ?_ ?_))<;>intro hF
  ·refine X1 5 0 h rfl (zcI h hF (qaJ ⟨_,_,rfl,(h.oldS s3)⟩) rfl fun r4 w5 h hF=>X0 6 rfl (qh (t:=25) hF rfl ?_ ?_))<;>intro hF
   ·refine X1 3 0 h rfl (zcB h hF (qk6 (h.old ha1)) rfl fun r5 w6 h hF=>zp2 rfl (qh (t:=29) hF rfl ?_ ?_))<;>intro hF
    ·refine X1 5 0 h rfl (zcB h hF (qbU ⟨_,_,rfl,(h.oldS s2)⟩) rfl fun r6 w7 h hF=>zp2 rfl (qh (t:=34) hF rfl ?_ ?_))<;>intro hF
     ·refine X1 5 0 h rfl (zcB h hF (qbU ⟨_,_,rfl,(h.oldS s3)⟩) rfl fun r7 w8 h hF=>zp2 rfl (qh (t:=39) hF rfl ?_ ?_))<;>intro hF
      ·refine X1 5 0 h rfl (zcI h hF (qaJ ⟨_,_,rfl,(h.oldS s4)⟩) rfl fun r8 w9 h hF=>X0 6 rfl (qh (t:=46) hF rfl ?_ ?_))<;>intro hF
       ·exact X1 9 0 h rfl (zcB h hF (qbU ⟨_,_,rfl,(h.oldS s4)⟩) rfl fun r9 w10 h hF=>X0 3 rfl (rb h hF rfl))
       exact X0 8 rfl (rb h hF rfl)
      exact X0 15 rfl (rb h hF rfl)
     exact X0 20 rfl (rb h hF rfl)
    exact X0 25 rfl (rb h hF rfl)
   exact X0 29 rfl (rb h hF rfl)
  exact X0 36 rfl (rb h hF rfl)
 exact X0 43 rfl (rb h hF rfl)
def qet (b:qd) (x2:(List Int)):Nat→Int→Option (Flow Bool Int)
 | 0,_=>none
 | n+1,i2 =>
  bif decide (i2<(b.Ah.length:Int)) then
   (idx b.Ah i2).bind fun y4 =>
   (idx x2 i2).bind fun y5 =>
   (qiT n y4 y5).bind fun r2 =>
   bif (!r2) then some (.ret false) else
   qet b x2 n (W64 (i2+1))
  else
   some (.nxt i2)
def qcL (r1:(List Tplace)):Nat→(List Int)→Int→Option ((List Int) × Int)
 | 0,_,_=>none
 | n+1,x2,i1 =>
  bif decide (i1<(r1.length:Int)) then
   (idx r1 i1).bind fun y1 =>
   bif (!y1.drives) then
    (idx x2 y1.net).bind fun y2 =>
    (idx x2 y1.net).bind fun _ =>
    qcL r1 n (setS x2 y1.net (W64 (y2+1))) (W64 (i1+1))
   else
    qcL r1 n x2 (W64 (i1+1))
  else
   some (x2,i1)
def qiq (n:Nat) (b:qd):Option Bool :=
 (
  (qhH n (⟨b.Af.Aj⟩:qq) (⟨b.Aa.Ab,b.Aa.Ai,b.Aa.Ac⟩:qg)).bind fun r3 =>
  bif (!r3) then some true else
  some ((b.Ah.length:Int) != (b.Aa.Ai.length:Int))).bind fun b1 =>
 bif b1 then some false else
 (mkS (b.Ah.length:Int) (0:Int)).bind fun x1 =>
 (qb3 n (⟨b.Aa.Ab,b.Aa.Ai,b.Aa.Ac⟩:qg)).bind fun r1 =>
 (qcL r1 n x1 0).bind fun o=>match o with
 | (x2,_) =>
  (qet b x2 n 0).bind fun o=>match o with
  | .ret r=>some r
  | .nxt _ =>
   some true
theorem qmz {b:qd} (ha1:GoT.R w (old w) b cs1) {r:Bool} (hF:qiq n b=some r):RetV Tryz.prog 74 [GoT.v qd cs1] w r:=by
 obtain ⟨p1,k1,p2,k2,p3,k3,p4,k4,p5,k5,rfl,s1,s2,s3,s4,s5⟩:=qD ha1
 refine zV 63 Tryz.func74 rfl fun h=>zSR (qO h rfl rfl fun w1 bb1 h=>X0 4 rfl ?_)
 obtain ⟨KF1,hKF1,o3,hF,hK3⟩:=bindE hF
 refine qa8 (fun e w'=>∃ (b1:Bool),KF1 b1=some r∧e=[(1,.pointer (some ⟨bb1,0,none⟩)),(23,.bool b1)]∧SH w w' [Ch.box bb1 (qA b p1 p2 p3 p4 p5 k1 k2 k3 k4 k5) 34]) ?_ ?_
 ·refine X2 5 0 0 h rfl (zcB h hF (ql3 (qeH _ (h.oldS s1)) (qa2 _ (h.oldS s2) (h.oldS s3) (h.oldS s4))) rfl fun r3 w12 h hF=>zp2 rfl (qh (t:=14) hF rfl ?_ ?_))<;>intro hF
  ·refine X0 10 rfl ?_
   obtain rfl:=qc hF
   exact rG ⟨_,hK3,rfl,h⟩ rfl
  refine X2 18 0 0 h rfl ?_
  obtain rfl:=qc hF
  exact rG ⟨_,hK3,rfl,h⟩ rfl
 rintro e3 w13 ⟨b1,hF,rfl,h⟩
 subst hKF1
 refine qk rfl hF ?_ ?_<;>intro hF
 ·exact X0 4 rfl (rb h hF rfl)
 refine X1 6 0 h rfl ?_
 obtain ⟨x1,hx1,hF⟩:=qe hF
 obtain ⟨g1,g2,hx1⟩:=qfx hx1
 refine qgC qb Int h rfl rfl rfl rfl rfl rfl rfl rfl rfl g1 g2 hx1 rfl fun w2 S1 p6 h=>X1 7 1 h rfl (zcL h hF (qeb (qa2 _ (h.oldS s2) (h.oldS s3) (h.oldS s4))) rfl fun r1 w3 S2 p7 k6 h hF=>X0 3 rfl ?_)
 obtain ⟨o1,hF,hK1⟩:=qe hF
 refine ql (rL (fun m e w'=>∃ (x2:(List Int)) (i1:Int),qcL r1 m x2 i1=some o1∧e=[(1,.pointer (some ⟨bb1,0,none⟩)),(3,.slice p6 x1.length x1.length),(30,.slice p7 r1.length k6),(31,.int .i64 (r1.length:Int)),(32,.int .i64 i1)]∧SH w w' [Ch.own S2 (r1:List Tplace) [.slice p7 r1.length k6],Ch.own S1 (x2:List Int) [.slice p6 x1.length x1.length],Ch.box bb1 (qA b p1 p2 p3 p4 p5 k1 k2 k3 k4 k5) 34]) n ⟨_,_,hF,rfl,h⟩ rfl ?_)
 rintro m1 e1 w4 ⟨x2,i1,hF,rfl,h⟩
 rcases m1 with _|m1
 ·cases hF
 refine X0 5 rfl (qk rfl hF ?_ ?_)<;>intro hF
 ·refine zKSBSR ?_
  obtain ⟨y1,hy1,hF,he1,b2,_,q1,cs2,hp1,hq1,hr2,hc3⟩:=(h.sl 0 rfl).1.ix hF
  obtain rfl:=qcf hr2
  refine zx hp1 hq1 ⟨he1.1,qI he1.2.1 (h.sl 0 rfl).2⟩ rfl (zc 0 hc3 rfl (qB qb h rfl rfl rfl fun w5 bb2 h=>zs 0 h rfl fun w6 h=>X1 7 0 h rfl (qk rfl hF ?_ ?_)))<;>intro hF
  ·refine X1 4 0 h rfl ?_
   obtain ⟨y2,hy2,hF,he2,b3,_,q2,cs3,hp2,hq2,rfl,hc5⟩:=(h.sl 2 rfl).1.ix hF
   refine zx hp2 hq2 ⟨he2.1,qI he2.2.1 (h.sl 2 rfl).2⟩ rfl (zc 0 hc5 rfl (zp1 rfl ?_))
   obtain ⟨y3,hy3,hF,he3,b4,_,q3,cs4,hp3,hq3,rfl,hc6⟩:=(h.sl 2 rfl).1.ix hF
   refine zx hp3 hq3 ⟨he3.1,qI he3.2.1 (h.sl 2 rfl).2⟩ rfl (qbE qb 2 0 (W64 (y2+1)) h rfl hy3 hp3 hq3 rfl hc6 rfl rfl rfl rfl rfl rfl rfl fun w7 h=>X0 6 rfl ?_)
   replace h:=h.pick [1,2,3] rfl
   exact rK ⟨_,_,hF,rfl,h⟩ rfl
  refine X0 6 rfl ?_
  replace h:=h.pick [1,2,3] rfl
  exact rK ⟨_,_,hF,rfl,h⟩ rfl
 refine qp rfl ?_
 obtain rfl:=qc hF;replace hF:=hK1
 refine X1 8 2 h rfl ?_
 obtain ⟨o2,hF,hK2⟩:=qe hF
 refine ql ?_
 replace h:=h.pick [1] rfl
 refine rL (fun m e w'=>∃ (i2:Int),qet b x2 m i2=some o2∧e=[(3,.slice p6 x1.length x1.length),(48,.slice p5 b.Ah.length k5),(49,.int .i64 (b.Ah.length:Int)),(50,.int .i64 i2)]∧SH w w' [Ch.own S1 (x2:List Int) [.slice p6 x1.length x1.length]]) n ⟨_,hF,rfl,h⟩ rfl ?_
 rintro m2 e2 w8 ⟨i2,hF,rfl,h⟩
 rcases m2 with _|m2
 ·cases hF
 refine X0 5 rfl (qk rfl hF ?_ ?_)<;>intro hF
 ·refine X0 6 rfl ?_
  obtain ⟨y4,hy4,hF,he4,b5,_,q4,cs5,hp4,hq4,hr5,hc8⟩:=s5.ix hF
  obtain ⟨p8,k7,p9,k8,p10,k9,p11,k10,rfl,s6,s7,s8,s9⟩:=qcm hr5
  refine zxe hp4 hq4 he4 rfl (zc 0 (hc8.below h.below) rfl (qB qb h rfl rfl rfl fun w9 bb3 h=>zp1 rfl (zs 0 h rfl fun w10 h=>zNS (rD (Y1 1 0 h rfl ?_)))))
  refine zd2 rfl ?_
  obtain ⟨y5,hy5,hF,he5,b6,_,q5,cs6,hp5,hq5,rfl,hc9⟩:=(h.sl 1 rfl).1.ix hF
  refine zdx hp5 hq5 ⟨he5.1,qI he5.2.1 (h.sl 1 rfl).2⟩ rfl (zdc 0 hc9 rfl ?_)
  obtain ⟨r2,hr7,hF⟩:=qe hF
  refine qc7 r2 (vsB _) (cB 134 rfl) (fun _ hb=>qm4 (qnU y4 ((h.ext hb).oldS s6) ((h.ext hb).oldS s7) ((h.ext hb).oldS s8) ((h.ext hb).oldS s9)) hr7) rfl rfl rfl rfl (zd1 rfl (dN h fun w11 h=>qk rfl hF ?_ ?_))<;>intro hF
  ·refine X0 4 rfl ?_
   obtain rfl:=qc hF;replace hF:=hK2
   exact rb h hF rfl
  refine X0 6 rfl ?_
  replace h:=h.pick [1] rfl
  exact rK ⟨_,hF,rfl,h⟩ rfl
 refine qp rfl ?_
 obtain rfl:=qc hF;replace hF:=hK2
 exact X0 4 rfl (rb h hF rfl)
end Go.Fw


namespace Go.Fw
open Go Go.Proofs
open Go.RowKit (Below)
set_option maxRecDepth 100000
set_option maxHeartbeats 6400000
variable {n:Nat} {w:World} {cs1 cs2 cs3 cs4 cs5 cs6 cs7 cs8 cs9:List Value}
def qgK (n:Nat) (l:qq) (d:qg) (place:Int):Option (Tl05Place × Bool) :=
 (qgA n l d).bind fun r1 =>
 bif (!r1) then some ((⟨0,0,0,false⟩:Tl05Place),false) else
 (qc4 n d).bind fun r2 =>
 (qao n place 0 (W64 ((r2.length:Int)-1))).bind fun r3 =>
 bif (!r3) then some ((⟨0,0,0,false⟩:Tl05Place),false) else
 (idx r2 place).bind fun y1 =>
 some (y1,true)
theorem qhC {l:qq} {d:qg} {place:Int} (ha1:GoT.R w (old w) l cs1) (ha2:GoT.R w (old w) d cs2) {r:(Tl05Place × Bool)} (hF:qgK n l d place=some r):RetV Tryz.prog 98 [GoT.v qq cs1,GoT.v qg cs2,.int .i64 place] w r:=by
 obtain ⟨p1,k1,rfl,s1⟩:=qbY ha1
 obtain ⟨p2,k2,p3,k3,p4,k4,rfl,s2,s3,s4⟩:=qaF ha2
 refine zV 27 Tryz.func98 rfl fun h=>zSR (qO h rfl rfl fun w1 bb1 h=>qO h rfl rfl fun w2 bb2 h=>qB qb h rfl rfl rfl fun w3 bb3 h=>X2 7 2 1 h rfl (zcB h hF (qjl (h.old ha1) (h.old ha2)) rfl fun r1 w4 h hF=>X0 2 rfl (qk rfl hF ?_ ?_)))<;>intro hF
 ·refine zSR (r_v (qat qb [] [] rfl rfl rfl rfl rfl rfl rfl rfl) rfl (zs 0 h rfl fun w5 h=>X0 2 rfl ?_))
  obtain rfl:=qc hF
  exact qar qb (ρ:=(Tl05Place × Bool)) [GoT.v Tl05Place [.int .i64 0,.int .i64 0,.int .i64 0,.bool false],GoT.v Bool [.bool false]] h ⟨⟨_,_,_,rfl,rfl,h.box 0 rfl,rfl⟩,rfl,trivial⟩ (PV.done h (qaC h (qu (S:=fun _=>False) (qgy (⟨0,0,0,false⟩:Tl05Place))) (qaD (qu (S:=fun _=>False) rfl)) (by rfl)))
 refine X1 4 1 h rfl (zcL h hF (qeJ (h.old ha2)) rfl fun r2 w6 S1 p5 k5 h hF=>X0 9 rfl (zcB h hF qU rfl fun r3 w7 h hF=>X0 2 rfl (qk rfl hF ?_ ?_)))<;>intro hF
 ·refine zSR (r_v (qat qb [] [] rfl rfl rfl rfl rfl rfl rfl rfl) rfl (zs 1 h rfl fun w8 h=>X0 2 rfl ?_))
  obtain rfl:=qc hF
  exact qar qb (ρ:=(Tl05Place × Bool)) [GoT.v Tl05Place [.int .i64 0,.int .i64 0,.int .i64 0,.bool false],GoT.v Bool [.bool false]] h ⟨⟨_,_,_,rfl,rfl,h.box 1 rfl,rfl⟩,rfl,trivial⟩ (PV.done h (qaC h (qu (S:=fun _=>False) (qgy (⟨0,0,0,false⟩:Tl05Place))) (qaD (qu (S:=fun _=>False) rfl)) (by rfl)))
 refine X0 5 rfl ?_
 obtain ⟨y1,hy1,hF,he1,b1,_,q1,cs3,hp1,hq1,hr4,hc3⟩:=(h.sl 0 rfl).1.ix hF
 obtain rfl:=qbH hr4
 refine zx hp1 hq1 ⟨he1.1,qI he1.2.1 (h.sl 0 rfl).2⟩ rfl (zc 0 hc3 rfl (zs 1 h rfl fun w9 h=>X0 2 rfl ?_))
 obtain rfl:=qc hF
 exact qar qb (ρ:=(Tl05Place × Bool)) [GoT.v Tl05Place (qh2 y1),GoT.v Bool [.bool true]] h ⟨⟨_,_,_,rfl,rfl,h.box 1 rfl,rfl⟩,rfl,trivial⟩ (PV.done h (qaC h (qu (S:=fun _=>False) (qgy y1)) (qaD (qu (S:=fun _=>False) rfl)) (by rfl)))
def qga (_:Nat) (b:qd) (a_instance:Int):Option qt :=
 (idx b.Aa.Ab a_instance).bind fun y1 =>
 (idx b.Af.Aj y1.Az).bind fun y2 =>
 some y2
theorem qjY {A:Nat→Prop} (hA:∀ b,A b→old w b) {b:qd} {a_instance:Int} (ha1:GoT.R w A b cs1) {r:qt} (hF:qga n b a_instance=some r):RetG Tryz.prog 153 [GoT.v qd cs1,.int .i64 a_instance] w A r:=by
 obtain ⟨p1,k1,p2,k2,p3,k3,p4,k4,p5,k5,rfl,s1,s2,s3,s4,s5⟩:=qD ha1
 have hg:=Rg.start hA
 refine qf6 Tryz.func153 rfl (m:=17) rfl rfl (fun h=>?_)
 refine zSR (qO h rfl rfl fun w1 bb1 h=>qB qb h rfl rfl rfl fun w2 bb2 h=>zNS (rA [] [1] h rfl fun w3 h=>M2 127 [0,1,2,3,4,5,6] 0 0 (h.pick [1] rfl) rfl ?_))
 obtain ⟨y1,hy1,hF,he1,b1,_,q1,cs2,hp1,hq1,hr1,hc1⟩:=s2.ix hF
 obtain ⟨p6,k6,rfl,s6⟩:=qaB hr1
 refine Ae 7 255 hp1 hq1 he1 (h.pick [1] rfl) rfl (M0 511 [8] (h.pick [1] rfl) rfl (Al 9 1023 1 hc1 (h.pick [1] rfl) rfl ?_))
 obtain ⟨y2,hy2,hF,he2,b2,_,q2,cs3,hp2,hq2,hr2,hc2⟩:=s1.ix hF
 obtain ⟨p7,k7,p8,k8,p9,k9,rfl,s7,s8,s9⟩:=qS hr2
 refine Ae 10 2047 hp2 hq2 he2 (h.pick [1] rfl) rfl (Al 11 4095 0 hc2 (h.pick [1] rfl) rfl (Ao 12 8191 rfl (zs 0 h rfl fun w4 h=>Ag (h.pick [1] rfl) (Ad ?_))))
 obtain rfl:=qc hF
 have hv1:GoRs.Rs (ρ:=qt) h.wc (reg A w h.wc) y2 [GoT.v qt (qy y2 p7 p8 p9 k7 k8 k9)]:=⟨_,rfl,(hg.outR h (qkN y2 (hg.inS h s7) (hg.inS h s8) (hg.inS h s9)))⟩
 exact qha qb (ρ:=qt) (r:=y2) [GoT.v qt (qy y2 p7 p8 p9 k7 k8 k9)] h ⟨⟨_,_,_,rfl,rfl,h.box 0 rfl,rfl⟩,trivial⟩ hv1
def qfC (n:Nat) (b:qd) (place:Int):Option Bool :=
 (qgK n (⟨b.Af.Aj⟩:qq) (⟨b.Aa.Ab,b.Aa.Ai,b.Aa.Ac⟩:qg) place).bind fun o=>match o with
  | (r2,_) =>
   bif decide (r2.instance_ ≥ 0) then
    (qga n b r2.instance_).bind fun r4 =>
    (idx r4.Ap r2.pin).bind fun y1 =>
    some y1.Bb
   else
    some false
theorem qhn {b:qd} {place:Int} (ha1:GoT.R w (old w) b cs1) {r:Bool} (hF:qfC n b place=some r):RetV Tryz.prog 99 [GoT.v qd cs1,.int .i64 place] w r:=by
 obtain ⟨p1,k1,p2,k2,p3,k3,p4,k4,p5,k5,rfl,s1,s2,s3,s4,s5⟩:=qD ha1
 refine zV 31 Tryz.func99 rfl fun h=>zSR (qO h rfl rfl fun w1 bb1 h=>X2 9 0 0 h rfl ?_)
 obtain ⟨r1,hr1,hF⟩:=qe hF
 obtain ⟨r2,r3⟩:=r1
 refine qbZ (r2,r3) h (cB 98 rfl) (qhC (qeH _ (h.oldS s1)) (qa2 _ (h.oldS s2) (h.oldS s3) (h.oldS s4)) hr1) rfl rfl rfl rfl fun w2 S1 us1 hv1 hr2=>?_
 obtain ⟨S2,S3,cs2,us2,rfl,hv2,hr3⟩:=hv1.cons hr2
 obtain rfl:=qbH (hv2.sh.own 0 rfl)
 obtain ⟨rfl,h⟩:=hv2.lastB hr3
 refine zp3 rfl (qB qb h rfl rfl rfl fun w3 bb2 h=>zs 0 h rfl fun w4 h=>X0 3 rfl (rA [] [0,2] h rfl fun w5 h=>M1 15 [0,1,2,3] 0 (h.pick [0,2] rfl) rfl (qoD (t:=19) hF rfl ?_ ?_)))<;>intro hF
 ·refine qch 4 rfl (by kernel_rfl) (bits 16 31) (by kernel_rfl) (by kernel_rfl) (fun w' hw=>qfk qb (hw.box 1 rfl) (j:=0) rfl rfl rfl) (h.pick [0,2] rfl) rfl (qch 5 rfl (by kernel_rfl) (bits 16 63) (by kernel_rfl) (by kernel_rfl) (fun w' hw=>v_p qb rfl w') (h.pick [0,2] rfl) rfl (qch 6 rfl (by kernel_rfl) (bits 16 127) (by kernel_rfl) (by kernel_rfl) (fun w' hw=>qfk qb (hw.box 0 rfl) (j:=0) rfl rfl rfl) (h.pick [0,2] rfl) rfl (qch 9 rfl (by kernel_rfl) (bits 16 639) (by kernel_rfl) (by kernel_rfl) (fun w' hw=>v_p qb rfl w') (h.pick [0,2] rfl) rfl (qch 10 rfl (by kernel_rfl) (bits 16 1663) (by kernel_rfl) (by kernel_rfl) (fun w' hw=>qfk qb (hw.box 0 rfl) (j:=1) rfl rfl rfl) (h.pick [0,2] rfl) rfl (Ao 7 1791 rfl (X0 1 rfl ?_))))))
  have hg1:Rg (old w) w (old w) w:=.start (fun _ h=>h)
  obtain ⟨r4,hr5,hF⟩:=qe hF
  refine qhI r4 hg1 h (cB 153 rfl) (qjY (hg1.atB h) (hg1.inBR h ha1) hr5) rfl rfl rfl rfl fun w6 us3 S5 h hv4=>?_
  obtain ⟨cs3,rfl,hr6⟩:=qgt hv4
  have hr7:=hr6
  obtain ⟨p6,k6,p7,k7,p8,k8,rfl,s6,s7,s8⟩:=qS hr6
  replace h:=h.grpAdd 0 rfl hr7
  refine Ag (h.pick [1,3] rfl) (qch 8 rfl (by kernel_rfl) (bits 16 2047) (by kernel_rfl) (by kernel_rfl) (fun w' hw=>v_p qb rfl w') (h.pick [1,3] rfl) rfl ?_)
  obtain ⟨y1,hy1,hF,he1,b1,_,q1,cs4,hp1,hq1,hr8,hc1⟩:=(qht (h.grp 0 0 rfl rfl)).1.1.ix hF
  obtain rfl:=qdR hr8
  refine qch 11 rfl (by kernel_rfl) (bits 16 4095) (by kernel_rfl) (by kernel_rfl) (fun w' hw=>qlx qb hp1 hq1 ⟨he1.1,qI he1.2.1 (qht (h.grp 0 0 rfl rfl)).1.2⟩ rfl rfl rfl rfl rfl rfl) (h.pick [1,3] rfl) rfl (qch 12 rfl (by kernel_rfl) (bits 16 8191) (by kernel_rfl) (by kernel_rfl) (fun w' hw=>v_p qb rfl w') (h.pick [1,3] rfl) rfl (Ao 13 16383 rfl (X0 1 rfl (zc 3 hc1 rfl (G0 65535 [14,15] (h.pick [1,3] rfl) rfl (Ad ?_))))))
  replace h:=h.pick [1,2,3] rfl
  exact rb h hF rfl
 exact qci 4 rfl (by kernel_rfl) rfl (bits 16 31) (by kernel_rfl) (by kernel_rfl) (h.pick [0,2] rfl) rfl (qci 5 rfl (by kernel_rfl) rfl (bits 16 63) (by kernel_rfl) (by kernel_rfl) (h.pick [0,2] rfl) rfl (qci 6 rfl (by kernel_rfl) rfl (bits 16 127) (by kernel_rfl) (by kernel_rfl) (h.pick [0,2] rfl) rfl (qci 7 rfl (by kernel_rfl) rfl (bits 16 255) (by kernel_rfl) (by kernel_rfl) (h.pick [0,2] rfl) rfl (qci 8 rfl (by kernel_rfl) rfl (bits 16 511) (by kernel_rfl) (by kernel_rfl) (h.pick [0,2] rfl) rfl (qci 9 rfl (by kernel_rfl) rfl (bits 16 1023) (by kernel_rfl) (by kernel_rfl) (h.pick [0,2] rfl) rfl (qci 10 rfl (by kernel_rfl) rfl (bits 16 2047) (by kernel_rfl) (by kernel_rfl) (h.pick [0,2] rfl) rfl (qci 11 rfl (by kernel_rfl) rfl (bits 16 4095) (by kernel_rfl) (by kernel_rfl) (h.pick [0,2] rfl) rfl (qci 12 rfl (by kernel_rfl) rfl (bits 16 8191) (by kernel_rfl) (by kernel_rfl) (h.pick [0,2] rfl) rfl (qci 13 rfl (by kernel_rfl) rfl (bits 16 16383) (by kernel_rfl) (by kernel_rfl) (h.pick [0,2] rfl) rfl (M0 65535 [14,15] (h.pick [0,2] rfl) rfl (Ad (rb h hF rfl))))))))))))
def qgE (n:Nat) (l:qq) (d:qg) (place:Int):Option Int :=
 (qgK n l d place).bind fun o=>match o with
  | (r2,r3) =>
   bif (!r3) then some (-1) else
   some r2.net
theorem qll {l:qq} {d:qg} {place:Int} (ha1:GoT.R w (old w) l cs1) (ha2:GoT.R w (old w) d cs2) {r:Int} (hF:qgE n l d place=some r):RetV Tryz.prog 151 [GoT.v qq cs1,GoT.v qg cs2,.int .i64 place] w r:=by
 obtain ⟨p1,k1,rfl,s1⟩:=qbY ha1
 obtain ⟨p2,k2,p3,k3,p4,k4,rfl,s2,s3,s4⟩:=qaF ha2
 refine zV 20 Tryz.func151 rfl fun h=>zSR (qO h rfl rfl fun w1 bb1 h=>qO h rfl rfl fun w2 bb2 h=>X2 7 1 0 h rfl ?_)
 obtain ⟨r1,hr1,hF⟩:=qe hF
 obtain ⟨r2,r3⟩:=r1
 refine qbZ (r2,r3) h (cB 98 rfl) (qhC (h.old ha1) (h.old ha2) hr1) rfl rfl rfl rfl fun w3 S1 us1 hv1 hr2=>?_
 obtain ⟨S2,S3,cs3,us2,rfl,hv2,hr3⟩:=hv1.cons hr2
 obtain rfl:=qbH (hv2.sh.own 0 rfl)
 obtain ⟨rfl,h⟩:=hv2.lastB hr3
 refine zp3 rfl (qB qb h rfl rfl rfl fun w4 bb3 h=>zs 0 h rfl fun w5 h=>X0 8 rfl (qk rfl hF ?_ ?_))<;>intro hF
 ·exact X0 4 rfl (ri h hF rfl)
 exact X1 7 0 h rfl (ri h hF rfl)
def qcq (net:Int) (r1:(List Tl05Place)):Nat→Int→Option (Flow Int Int)
 | 0,_=>none
 | n+1,i1 =>
  bif decide (i1<(r1.length:Int)) then
   (idx r1 i1).bind fun y1 =>
   bif (y1.net==net) then
    (idx r1 i1).bind fun y2 =>
    bif y2.drives then some (.ret i1) else
    qcq net r1 n (W64 (i1+1))
   else
    qcq net r1 n (W64 (i1+1))
  else
   some (.nxt i1)
def qhd (n:Nat) (d:qg) (net:Int):Option Int :=
 (qc4 n d).bind fun r1 =>
 (qcq net r1 n 0).bind fun o=>match o with
 | .ret r=>some r
 | .nxt _ =>
  some (-1)
theorem qlF {d:qg} {net:Int} (ha1:GoT.R w (old w) d cs1) {r:Int} (hF:qhd n d net=some r):RetV Tryz.prog 152 [GoT.v qg cs1,.int .i64 net] w r:=by
 obtain ⟨p1,k1,p2,k2,p3,k3,rfl,s1,s2,s3⟩:=qaF ha1
 refine zV 30 Tryz.func152 rfl fun h=>zSR (qO h rfl rfl fun w1 bb1 h=>X1 5 0 h rfl (zcL h hF (qeJ (h.old ha1)) rfl fun r1 w2 S1 p4 k4 h hF=>X0 7 rfl ?_))
 obtain ⟨o1,hF,hK1⟩:=qe hF
 refine ql ?_
 replace h:=h.pick [0] rfl
 refine rL (fun m e w'=>∃ (i1:Int),qcq net r1 m i1=some o1∧e=[(1,.int .i64 net),(5,.slice p4 r1.length k4),(6,.int .i64 i1)]∧SH w w' [Ch.own S1 (r1:List Tl05Place) [.slice p4 r1.length k4]]) n ⟨_,hF,rfl,h⟩ rfl ?_
 rintro m1 e1 w3 ⟨i1,hF,rfl,h⟩
 rcases m1 with _|m1
 ·cases hF
 refine X0 8 rfl (qk rfl hF ?_ ?_)<;>intro hF
 ·refine X0 7 rfl ?_
  obtain ⟨y1,hy1,hF,he1,b1,_,q1,cs2,hp1,hq1,hr2,hc2⟩:=(h.sl 0 rfl).1.ix hF
  obtain rfl:=qbH hr2
  refine zx hp1 hq1 ⟨he1.1,qI he1.2.1 (h.sl 0 rfl).2⟩ rfl (zp1 rfl (zc 2 hc2 rfl (zp3 rfl (qh (t:=22) hF rfl ?_ ?_))))<;>intro hF
  ·refine X0 5 rfl ?_
   obtain ⟨y2,hy2,hF,he2,b2,_,q2,cs3,hp2,hq2,hr3,hc3⟩:=(h.sl 0 rfl).1.ix hF
   obtain rfl:=qbH hr3
   refine zx hp2 hq2 ⟨he2.1,qI he2.2.1 (h.sl 0 rfl).2⟩ rfl (X0 3 rfl (zc 3 hc3 rfl (X0 2 rfl (qk rfl hF ?_ ?_))))<;>intro hF
   ·refine X0 5 rfl ?_
    obtain rfl:=qc hF;replace hF:=hK1
    exact ri h hF rfl
   exact X0 7 rfl (rK ⟨_,hF,rfl,h⟩ rfl)
  exact X0 7 rfl (qbJ rfl rfl (X0 7 rfl (rK ⟨_,hF,rfl,h⟩ rfl)))
 refine qp rfl ?_
 obtain rfl:=qc hF;replace hF:=hK1
 exact X0 4 rfl (ri h hF rfl)
def qdo (a_instance:Int) (pin:Int) (r1:(List Tl05Place)):Nat→Int→Option (Flow Int Int)
 | 0,_=>none
 | n+1,i1 =>
  bif decide (i1<(r1.length:Int)) then
   (idx r1 i1).bind fun y1 =>
   bif (y1.instance_==a_instance) then
    (idx r1 i1).bind fun y2 =>
    bif (y2.pin==pin) then some (.ret i1) else
    qdo a_instance pin r1 n (W64 (i1+1))
   else
    qdo a_instance pin r1 n (W64 (i1+1))
  else
   some (.nxt i1)
def qg9 (n:Nat) (d:qg) (a_instance:Int) (pin:Int):Option Int :=
 (qc4 n d).bind fun r1 =>
 (qdo a_instance pin r1 n 0).bind fun o=>match o with
 | .ret r=>some r
 | .nxt _ =>
  some (-1)
theorem qmu {d:qg} {a_instance:Int} {pin:Int} (ha1:GoT.R w (old w) d cs1) {r:Int} (hF:qg9 n d a_instance pin=some r):RetV Tryz.prog 154 [GoT.v qg cs1,.int .i64 a_instance,.int .i64 pin] w r:=by
 obtain ⟨p1,k1,p2,k2,p3,k3,rfl,s1,s2,s3⟩:=qaF ha1
 refine zV 34 Tryz.func154 rfl fun h=>zSR (qO h rfl rfl fun w1 bb1 h=>X1 5 0 h rfl (zcL h hF (qeJ (h.old ha1)) rfl fun r1 w2 S1 p4 k4 h hF=>X0 7 rfl ?_))
 obtain ⟨o1,hF,hK1⟩:=qe hF
 refine ql ?_
 replace h:=h.pick [0] rfl
 refine rL (fun m e w'=>∃ (i1:Int),qdo a_instance pin r1 m i1=some o1∧e=[(1,.int .i64 a_instance),(2,.int .i64 pin),(7,.slice p4 r1.length k4),(8,.int .i64 i1)]∧SH w w' [Ch.own S1 (r1:List Tl05Place) [.slice p4 r1.length k4]]) n ⟨_,hF,rfl,h⟩ rfl ?_
 rintro m1 e1 w3 ⟨i1,hF,rfl,h⟩
 rcases m1 with _|m1
 ·cases hF
 refine X0 8 rfl (qk rfl hF ?_ ?_)<;>intro hF
 ·refine X0 7 rfl ?_
  obtain ⟨y1,hy1,hF,he1,b1,_,q1,cs2,hp1,hq1,hr2,hc2⟩:=(h.sl 0 rfl).1.ix hF
  obtain rfl:=qbH hr2
  refine zx hp1 hq1 ⟨he1.1,qI he1.2.1 (h.sl 0 rfl).2⟩ rfl (zp1 rfl (zc 0 hc2 rfl (zp3 rfl (qh (t:=24) hF rfl ?_ ?_))))<;>intro hF
  ·refine X0 5 rfl ?_
   obtain ⟨y2,hy2,hF,he2,b2,_,q2,cs3,hp2,hq2,hr3,hc3⟩:=(h.sl 0 rfl).1.ix hF
   obtain rfl:=qbH hr3
   refine zx hp2 hq2 ⟨he2.1,qI he2.2.1 (h.sl 0 rfl).2⟩ rfl (X0 3 rfl (zc 1 hc3 rfl (X0 6 rfl (qk rfl hF ?_ ?_))))<;>intro hF
   ·refine X0 5 rfl ?_
    obtain rfl:=qc hF;replace hF:=hK1
    exact ri h hF rfl
   exact X0 7 rfl (rK ⟨_,hF,rfl,h⟩ rfl)
  exact X0 9 rfl (qbJ rfl rfl (X0 7 rfl (rK ⟨_,hF,rfl,h⟩ rfl)))
 refine qp rfl ?_
 obtain rfl:=qc hF;replace hF:=hK1
 exact X0 4 rfl (ri h hF rfl)
def qb4 (a_0:qd) (r6:(List Int)):Nat→(List Int)→Int→Option ((List Int) × Int)
 | 0,_,_=>none
 | n+1,x1,i1 =>
  bif decide (i1<(r6.length:Int)) then
   (idx r6 i1).bind fun y1 =>
   (qfC n a_0 y1).bind fun r7 =>
   bif (!r7) then
    (idx r6 i1).bind fun y2 =>
    (appS x1 ([y2]:List Int)).bind fun x2 =>
    qb4 a_0 r6 n x2 (W64 (i1+1))
   else
    qb4 a_0 r6 n x1 (W64 (i1+1))
  else
   some (x1,i1)
def qdT (a_0:qd) (r2:Tl05Place) (r8:qt):Nat→Int→Option (Flow (List Int) Int)
 | 0,_=>none
 | n+1,i2 =>
  bif decide (i2<(r8.Aq.length:Int)) then
   (
    (idx r8.Aq i2).bind fun y3 =>
    bif (y3.As==r2.pin) then
     (idx r8.Aq i2).bind fun y4 =>
     some (decide (y4.Ar≤3))
    else
     some false).bind fun b3 =>
   bif b3 then
    (qg9 n (⟨a_0.Aa.Ab,a_0.Aa.Ai,a_0.Aa.Ac⟩:qg) r2.instance_ (W64 ((r8.Ap.length:Int)-1))).bind fun r9 =>
    some (.ret ([r9]:List Int))
   else
    qdT a_0 r2 r8 n (W64 (i2+1))
  else
   some (.nxt i2)
def qdN (n:Nat) (a_0:qd) (a_1:Int):Option (List Int) :=
 (qgK n (⟨a_0.Af.Aj⟩:qq) (⟨a_0.Aa.Ab,a_0.Aa.Ai,a_0.Aa.Ac⟩:qg) a_1).bind fun o=>match o with
  | (r2,_) =>
   (qgE n (⟨a_0.Af.Aj⟩:qq) (⟨a_0.Aa.Ab,a_0.Aa.Ai,a_0.Aa.Ac⟩:qg) a_1).bind fun r4 =>
   (qhd n (⟨a_0.Aa.Ab,a_0.Aa.Ai,a_0.Aa.Ac⟩:qg) r4).bind fun r5 =>
   bif (r5==a_1) then
    (qfD n (⟨a_0.Aa.Ab,a_0.Aa.Ai,a_0.Aa.Ac⟩:qg) r4).bind fun r6 =>
    (qb4 a_0 r6 n ([]:List Int) 0).bind fun o=>match o with
    | (x1,_) =>
     some x1
   else
    bif decide (r2.instance_<0) then some ([]:List Int) else
    (qga n a_0 r2.instance_).bind fun r8 =>
    (qdT a_0 r2 r8 n 0).bind fun o=>match o with
    | .ret r=>some r
    | .nxt _ =>
     some ([]:List Int)
theorem qe0 {a_0:qd} {a_1:Int} (ha1:GoT.R w (old w) a_0 cs1) {r:(List Int)} (hF:qdN n a_0 a_1=some r):RetV Tryz.prog 90 [GoT.v qd cs1,.int .i64 a_1] w r:=by
 obtain ⟨p1,k1,p2,k2,p3,k3,p4,k4,p5,k5,rfl,s1,s2,s3,s4,s5⟩:=qD ha1
 refine zV 104 Tryz.func90 rfl fun h=>zSR (qO h rfl rfl fun w1 bb1 h=>X0 4 rfl (qm qb [] _ ([]:List Int) h rfl rfl rfl rfl rfl rfl rfl rfl rfl trivial rfl fun w2 p6 S1 h=>X2 9 1 1 h rfl ?_))
 obtain ⟨r1,hr1,hF⟩:=qe hF
 obtain ⟨r2,r3⟩:=r1
 refine qbZ (r2,r3) h (cB 98 rfl) (qhC (qeH _ (h.oldS s1)) (qa2 _ (h.oldS s2) (h.oldS s3) (h.oldS s4)) hr1) rfl rfl rfl rfl fun w3 S2 us1 hv1 hr2=>?_
 obtain ⟨S3,S4,cs2,us2,rfl,hv2,hr3⟩:=hv1.cons hr2
 obtain rfl:=qbH (hv2.sh.own 0 rfl)
 obtain ⟨rfl,h⟩:=hv2.lastB hr3
 refine zp3 rfl (qB qb h rfl rfl rfl fun w4 bb2 h=>zs 0 h rfl fun w5 h=>X2 9 3 3 h rfl (zcI h hF (qll (qeH _ (h.oldS s1)) (qa2 _ (h.oldS s2) (h.oldS s3) (h.oldS s4))) rfl fun r4 w6 h hF=>X1 8 3 h rfl (zcI h hF (qlF (qa2 _ (h.oldS s2) (h.oldS s3) (h.oldS s4))) rfl fun r5 w7 h hF=>X0 3 rfl (qk rfl hF ?_ ?_))))<;>intro hF
 ·refine X1 5 3 h rfl (zcL h hF (qhs (qa2 _ (h.oldS s2) (h.oldS s3) (h.oldS s4))) rfl fun r6 w8 S6 p7 k6 h hF=>X0 7 rfl ?_)
  obtain ⟨o1,hF,hK1⟩:=qe hF
  refine ql ?_
  replace h:=h.pick [0,3,4] rfl
  refine rL (fun m e w'=>∃ (S7:Nat→Prop) (p8:Option Addr) (ln1:Nat) (k7:Nat) (x1:(List Int)) (i1:Int),qb4 a_0 r6 m x1 i1=some o1∧e=[(2,.pointer (some ⟨bb1,0,none⟩)),(5,.slice p8 ln1 k7),(9,.slice p7 r6.length k6),(10,.int .i64 i1)]∧SH w w' [Ch.own S6 (r6:List Int) [.slice p7 r6.length k6],Ch.own S7 (x1:List Int) [.slice p8 ln1 k7],Ch.box bb1 (qA a_0 p1 p2 p3 p4 p5 k1 k2 k3 k4 k5) 34]) n ⟨_,_,_,_,_,_,hF,rfl,h⟩ rfl ?_
  rintro m1 e1 w9 ⟨S7,p8,ln1,k7,x1,i1,hF,rfl,h⟩
  obtain rfl:=(h.sl 1 rfl).2
  rcases m1 with _|m1
  ·cases hF
  refine X0 8 rfl (qk rfl hF ?_ ?_)<;>intro hF
  ·refine X0 4 rfl (rD (Y1 1 2 h rfl ?_))
   refine zd2 rfl ?_
   obtain ⟨y1,hy1,hF,he1,b1,_,q1,cs3,hp1,hq1,rfl,hc3⟩:=(h.sl 0 rfl).1.ix hF
   refine zdx hp1 hq1 ⟨he1.1,qI he1.2.1 (h.sl 0 rfl).2⟩ rfl (zdc 0 hc3 rfl ?_)
   obtain ⟨r7,hr9,hF⟩:=qe hF
   refine qc7 r7 (vsB _) (cB 99 rfl) (fun _ hb=>qhn ((h.ext hb).old ha1) hr9) rfl rfl rfl rfl (zd1 rfl (dN h fun w10 h=>qk rfl hF ?_ ?_))<;>intro hF
   ·refine X0 4 rfl ?_
    obtain ⟨y2,hy2,hF,he2,b2,_,q2,cs4,hp2,hq2,rfl,hc5⟩:=(h.sl 0 rfl).1.ix hF
    refine zx hp2 hq2 ⟨he2.1,qI he2.2.1 (h.sl 0 rfl).2⟩ rfl (zc 0 hc5 rfl (qm qb [.tmp 56] _ ([y2]:List Int) h rfl rfl rfl rfl rfl rfl rfl rfl rfl ⟨rfl,trivial⟩ rfl fun w11 p9 S8 h=>?_))
    obtain ⟨x2,hx1,hF⟩:=qe hF
    obtain ⟨g1,hx1⟩:=qr hx1
    refine qaf qb 2 h rfl (h.sl 0 rfl).1 (h.sl 0 rfl).2 rfl rfl rfl rfl rfl rfl rfl rfl rfl g1 hx1 rfl fun w12 p10 k8 S9 h=>X0 8 rfl ?_
    replace h:=h.pick [1,2,3] rfl
    exact rK ⟨_,_,_,_,_,_,hF,rfl,h⟩ rfl
   exact X0 7 rfl (rK ⟨_,_,_,_,_,_,hF,rfl,h⟩ rfl)
  refine qp rfl ?_
  obtain rfl:=qc hF;replace hF:=hK1
  refine X0 5 rfl ?_
  obtain rfl:=qc hF
  exact rO 1 h rfl ⟨rfl,trivial⟩
 refine X1 8 0 h rfl (qk rfl hF ?_ ?_)<;>intro hF
 ·refine X0 5 rfl ?_
  obtain rfl:=qc hF
  exact rO 2 h rfl ⟨rfl,trivial⟩
 refine X2 6 3 0 h rfl ?_
 have hg1:Rg (old w) w (old w) w:=.start (fun _ h=>h)
 obtain ⟨r8,hr11,hF⟩:=qe hF
 refine qhI r8 hg1 h (cB 153 rfl) (qjY (hg1.atB h) (hg1.inBR h ha1) hr11) rfl rfl rfl rfl fun w13 us3 S10 h hv4=>?_
 obtain ⟨cs5,rfl,hr12⟩:=qgt hv4
 have hr13:=hr12
 obtain ⟨p11,k9,p12,k10,p13,k11,rfl,s6,s7,s8⟩:=qS hr12
 replace h:=h.grpAdd 0 rfl hr13
 refine qB qb h rfl rfl rfl fun w14 bb3 h=>zs 0 h rfl fun w15 h=>X0 6 rfl ?_
 obtain ⟨o2,hF,hK2⟩:=qe hF
 refine ql ?_
 replace h:=h.pick [0,1,2,4,5] rfl
 refine rL (fun m e w'=>∃ (i2:Int),qdT a_0 r2 r8 m i2=some o2∧e=[(2,.pointer (some ⟨bb1,0,none⟩)),(5,.slice p6 0 0),(6,.pointer (some ⟨bb2,0,none⟩)),(11,.pointer (some ⟨bb3,0,none⟩)),(12,.int .i64 i2)]∧SH w w' [Ch.box bb3 (qy r8 p11 p12 p13 k9 k10 k11) 201,Ch.grp (old w) S10 [fct (r8:qt) [.string r8.Au,.int .i64 r8.Ar,.slice p11 r8.Ap.length k9,.slice p12 r8.Aq.length k10,.slice p13 r8.Ba.length k11,.int .i64 r8.Br,.int .i64 r8.Bk]],Ch.box bb2 (qh2 r2) 151,Ch.own S1 (([]:List Int):List Int) [.slice p6 0 0],Ch.box bb1 (qA a_0 p1 p2 p3 p4 p5 k1 k2 k3 k4 k5) 34]) n ⟨_,hF,rfl,h⟩ rfl ?_
 rintro m2 e2 w16 ⟨i2,hF,rfl,h⟩
 rcases m2 with _|m2
 ·cases hF
 refine X1 9 0 h rfl (qk rfl hF ?_ ?_)<;>intro hF
 ·refine X0 4 rfl ?_
  obtain ⟨KF1,hKF1,o3,hF,hK3⟩:=bindE hF
  refine qa8 (fun e w'=>∃ (b3:Bool),KF1 b3=some o2∧e=[(2,.pointer (some ⟨bb1,0,none⟩)),(5,.slice p6 0 0),(6,.pointer (some ⟨bb2,0,none⟩)),(11,.pointer (some ⟨bb3,0,none⟩)),(12,.int .i64 i2),(92,.bool b3)]∧SH w w' [Ch.box bb3 (qy r8 p11 p12 p13 k9 k10 k11) 201,Ch.grp (old w) S10 [fct (r8:qt) [.string r8.Au,.int .i64 r8.Ar,.slice p11 r8.Ap.length k9,.slice p12 r8.Aq.length k10,.slice p13 r8.Ba.length k11,.int .i64 r8.Br,.int .i64 r8.Bk]],Ch.box bb2 (qh2 r2) 151,Ch.own S1 (([]:List Int):List Int) [.slice p6 0 0],Ch.box bb1 (qA a_0 p1 p2 p3 p4 p5 k1 k2 k3 k4 k5) 34]) ?_ ?_
  ·refine rD (Y1 2 0 h rfl ?_)
   refine zd1 rfl ?_
   obtain ⟨y3,hy3,hF,he3,b4,_,q3,cs6,hp3,hq3,hr15,hc9⟩:=(qht (h.grpS 1 0 rfl rfl)).2.1.1.ix hF
   have hr16:=hr15
   obtain ⟨p15,k12,p16,k13,rfl,s9,s10⟩:=qaL hr15
   replace h:=h.grpAdd 1 rfl hr16
   refine zdx hp3 hq3 ⟨he3.1,qI he3.2.1 (qht (h.grpS 1 1 rfl rfl)).2.1.2⟩ rfl (zd1 rfl (zdc 1 hc9 rfl (Y1 2 2 h rfl ?_)))
   refine zd2 rfl (qbf (t:=84) hF rfl ?_ ?_)<;>intro hF
   ·refine Y1 4 0 h rfl ?_
    refine Y0 3 rfl ?_
    obtain ⟨y4,hy4,hF,he4,b5,_,q4,cs7,hp4,hq4,hr17,hc10⟩:=(qht (h.grpS 1 1 rfl rfl)).2.1.1.ix hF
    have hr18:=hr17
    obtain ⟨p17,k14,p18,k15,rfl,s11,s12⟩:=qaL hr17
    replace h:=h.grpAdd 1 rfl hr18
    refine zdx hp4 hq4 ⟨he4.1,qI he4.2.1 (qht (h.grpS 1 2 rfl rfl)).2.1.2⟩ rfl (Y0 3 rfl (zdc 0 hc10 rfl (Y0 3 rfl (dN h fun w19 h=>?_))))
    replace h:=h.grpKeep [2] 1 rfl
    obtain rfl:=qc hF
    exact rG ⟨_,hK3,rfl,h⟩ rfl
   refine Y0 8 rfl (dN h fun w20 h=>?_)
   replace h:=h.grpKeep [1] 1 rfl
   obtain rfl:=qc hF
   exact rG ⟨_,hK3,rfl,h⟩ rfl
  rintro e3 w21 ⟨b3,hF,rfl,h⟩
  subst hKF1
  refine qk rfl hF ?_ ?_<;>intro hF
  ·refine X3 10 4 2 0 h rfl (zcI h hF (qmu (qa2 _ (h.oldS (s2.mono hg1.old)) (h.oldS (s3.mono hg1.old)) (h.oldS (s4.mono hg1.old)))) rfl fun r9 w17 h hF=>qm qb [.tmp 101] _ ([r9]:List Int) h rfl rfl rfl rfl rfl rfl rfl rfl rfl ⟨rfl,trivial⟩ rfl fun w18 p14 S11 h=>X0 2 rfl ?_)
   replace h:=h.pick [0,1,3,4,5] rfl
   obtain rfl:=qc hF;replace hF:=hK2
   obtain rfl:=qc hF
   exact rO 0 h rfl ⟨rfl,trivial⟩
  exact X0 7 rfl (rK ⟨_,hF,rfl,h⟩ rfl)
 refine qp rfl ?_
 obtain rfl:=qc hF;replace hF:=hK2
 refine X0 5 rfl ?_
 replace h:=h.pick [0,2,3,4] rfl
 obtain rfl:=qc hF
 exact rO 2 h rfl ⟨rfl,trivial⟩
def qeK (_:Nat) (a:qav):Option (List qR) :=
 bif (a.Ar==2) then some ([(⟨0,0⟩:qR),(⟨0,1⟩:qR)]:List qR) else
 bif (a.Ar==3) then some ([(⟨1,0⟩:qR),(⟨1,1⟩:qR)]:List qR) else
 bif (a.Ar != 1) then some [] else
 bif (a.Bj==1) then some ([(⟨0,0⟩:qR),(⟨1,1⟩:qR)]:List qR) else
 bif (a.Bj==2) then some ([(⟨0,1⟩:qR),(⟨1,0⟩:qR)]:List qR) else
 some ([(⟨0,0⟩:qR),(⟨0,1⟩:qR),(⟨1,0⟩:qR),(⟨1,1⟩:qR)]:List qR)
theorem qjn {a:qav} (ha1:GoT.R w (old w) a cs1) {r:(List qR)} (hF:qeK n a=some r):RetV Tryz.prog 189 [GoT.v qav cs1] w r:=by
 obtain ⟨p1,k1,p2,k2,rfl,s1,s2⟩:=qaL ha1
 refine zV 44 Tryz.func189 rfl fun h=>zSR (qO h rfl rfl fun w1 bb1 h=>X0 4 rfl (r_v (qfB qb [0,1] [.const (.int .i64 (0)),.const (.int .i64 (0))] rfl rfl rfl rfl rfl rfl rfl rfl rfl) rfl (r_v (qfB qb [0,1] [.const (.int .i64 (1)),.const (.int .i64 (1))] rfl rfl rfl rfl rfl rfl rfl rfl rfl) rfl (qm qb [.tmp 5,.tmp 6] _ ([(⟨0,0⟩:qR),(⟨1,1⟩:qR)]:List qR) h rfl rfl rfl rfl rfl rfl rfl rfl rfl ⟨(qcF (⟨0,0⟩:qR)),(qcF (⟨1,1⟩:qR)),trivial⟩ rfl fun w2 p3 S1 h=>X0 4 rfl (r_v (qfB qb [0,1] [.const (.int .i64 (0)),.const (.int .i64 (1))] rfl rfl rfl rfl rfl rfl rfl rfl rfl) rfl (r_v (qfB qb [0,1] [.const (.int .i64 (1)),.const (.int .i64 (0))] rfl rfl rfl rfl rfl rfl rfl rfl rfl) rfl (qm qb [.tmp 8,.tmp 9] _ ([(⟨0,1⟩:qR),(⟨1,0⟩:qR)]:List qR) h rfl rfl rfl rfl rfl rfl rfl rfl rfl ⟨(qcF (⟨0,1⟩:qR)),(qcF (⟨1,0⟩:qR)),trivial⟩ rfl fun w3 p4 S2 h=>X1 11 2 h rfl (qk rfl hF ?_ ?_))))))))<;>intro hF
 ·refine zSR (r_v (qfB qb [0,1] [.const (.int .i64 (0)),.const (.int .i64 (0))] rfl rfl rfl rfl rfl rfl rfl rfl rfl) rfl (r_v (qfB qb [0,1] [.const (.int .i64 (0)),.const (.int .i64 (1))] rfl rfl rfl rfl rfl rfl rfl rfl rfl) rfl (qm qb [.tmp 15,.tmp 16] _ ([(⟨0,0⟩:qR),(⟨0,1⟩:qR)]:List qR) h rfl rfl rfl rfl rfl rfl rfl rfl rfl ⟨(qcF (⟨0,0⟩:qR)),(qcF (⟨0,1⟩:qR)),trivial⟩ rfl fun w4 p5 S3 h=>X0 2 rfl ?_)))
  obtain rfl:=qc hF
  exact rO 0 h rfl ⟨rfl,trivial⟩
 refine X1 7 2 h rfl (qk rfl hF ?_ ?_)<;>intro hF
 ·refine zSR (r_v (qfB qb [0,1] [.const (.int .i64 (1)),.const (.int .i64 (0))] rfl rfl rfl rfl rfl rfl rfl rfl rfl) rfl (r_v (qfB qb [0,1] [.const (.int .i64 (1)),.const (.int .i64 (1))] rfl rfl rfl rfl rfl rfl rfl rfl rfl) rfl (qm qb [.tmp 22,.tmp 23] _ ([(⟨1,0⟩:qR),(⟨1,1⟩:qR)]:List qR) h rfl rfl rfl rfl rfl rfl rfl rfl rfl ⟨(qcF (⟨1,0⟩:qR)),(qcF (⟨1,1⟩:qR)),trivial⟩ rfl fun w5 p6 S4 h=>X0 2 rfl ?_)))
  obtain rfl:=qc hF
  exact rO 0 h rfl ⟨rfl,trivial⟩
 refine X1 7 2 h rfl (qk rfl hF ?_ ?_)<;>intro hF
 ·refine X0 4 rfl ?_
  obtain rfl:=qc hF
  exact qar qb (ρ:=(List qR)) [GoT.v (List qR) [.slice none 0 0]] h ⟨rfl,trivial⟩ (PV.done h (qaD qeO))
 refine X1 7 2 h rfl (qk rfl hF ?_ ?_)<;>intro hF
 ·refine X0 5 rfl ?_
  obtain rfl:=qc hF
  exact rO 1 h rfl ⟨rfl,trivial⟩
 refine X1 7 2 h rfl (qk rfl hF ?_ ?_)<;>intro hF
 ·refine X0 5 rfl ?_
  obtain rfl:=qc hF
  exact rO 0 h rfl ⟨rfl,trivial⟩
 refine X0 4 rfl (r_v (qfB qb [0,1] [.const (.int .i64 (0)),.const (.int .i64 (0))] rfl rfl rfl rfl rfl rfl rfl rfl rfl) rfl (r_v (qfB qb [0,1] [.const (.int .i64 (0)),.const (.int .i64 (1))] rfl rfl rfl rfl rfl rfl rfl rfl rfl) rfl (r_v (qfB qb [0,1] [.const (.int .i64 (1)),.const (.int .i64 (0))] rfl rfl rfl rfl rfl rfl rfl rfl rfl) rfl (r_v (qfB qb [0,1] [.const (.int .i64 (1)),.const (.int .i64 (1))] rfl rfl rfl rfl rfl rfl rfl rfl rfl) rfl (qm qb [.tmp 39,.tmp 40,.tmp 41,.tmp 42] _ ([(⟨0,0⟩:qR),(⟨0,1⟩:qR),(⟨1,0⟩:qR),(⟨1,1⟩:qR)]:List qR) h rfl rfl rfl rfl rfl rfl rfl rfl rfl ⟨(qcF (⟨0,0⟩:qR)),(qcF (⟨0,1⟩:qR)),(qcF (⟨1,0⟩:qR)),(qcF (⟨1,1⟩:qR)),trivial⟩ rfl fun w6 p7 S5 h=>X0 2 rfl ?_)))))
 obtain rfl:=qc hF
 exact rO 0 h rfl ⟨rfl,trivial⟩
def qbz (first:Int) (i1:Int) (y2:qav) (r1:(List qR)):Nat→(List qa9)→Int→Option ((List qa9) × Int)
 | 0,_,_=>none
 | n+1,x2,i2 =>
  bif decide (i2<(r1.length:Int)) then
   (idx r1 i2).bind fun y3 =>
   (appS x2 ([(⟨W64 ((W64 (2*(W64 (first+y2.As))))+y3.e0),W64 ((W64 (2*(W64 (first+y2.To))))+y3.e1),1,i1⟩:qa9)]:List qa9)).bind fun x3 =>
   qbz first i1 y2 r1 n x3 (W64 (i2+1))
  else
   some (x2,i2)
def qbB (first:Int) (y1:qt):Nat→(List qa9)→Int→Option ((List qa9) × Int)
 | 0,_,_=>none
 | n+1,x1,i1 =>
  bif decide (i1<(y1.Aq.length:Int)) then
   (idx y1.Aq i1).bind fun y2 =>
   (qeK n y2).bind fun r1 =>
   (qbz first i1 y2 r1 n x1 0).bind fun o=>match o with
   | (x2,_) =>
    qbB first y1 n x2 (W64 (i1+1))
  else
   some (x1,i1)
def qey (n:Nat) (b:qd) (x:qz) (first:Int):Option (List qa9) :=
 (idx b.Af.Aj x.Az).bind fun y1 =>
 (qbB first y1 n ([]:List qa9) 0).bind fun o=>match o with
 | (x1,_) =>
  some x1
theorem qjx {b:qd} {x:qz} {first:Int} (ha1:GoT.R w (old w) b cs1) (ha2:GoT.R w (old w) x cs2) {r:(List qa9)} (hF:qey n b x first=some r):RetV Tryz.prog 135 [GoT.v qd cs1,GoT.v qz cs2,.int .i64 first] w r:=by
 obtain ⟨p1,k1,p2,k2,p3,k3,p4,k4,p5,k5,rfl,s1,s2,s3,s4,s5⟩:=qD ha1
 obtain ⟨p6,k6,rfl,s6⟩:=qaB ha2
 refine zV 57 Tryz.func135 rfl fun h=>zSR (qO h rfl rfl fun w1 bb1 h=>qO h rfl rfl fun w2 bb2 h=>X2 14 1 0 h rfl ?_)
 obtain ⟨y1,hy1,hF,he1,b1,_,q1,cs3,hp1,hq1,hr1,hc1⟩:=s1.ix hF
 obtain ⟨p7,k7,p8,k8,p9,k9,rfl,s7,s8,s9⟩:=qS hr1
 refine zxe hp1 hq1 he1 rfl (zp1 rfl (zc 3 (hc1.below h.below) rfl (X0 3 rfl ?_)))
 replace h:=h.nil (α:=qa9)
 obtain ⟨o1,hF,hK1⟩:=qe hF
 refine ql ?_
 replace h:=h.pick [0] rfl
 refine rL (fun m e w'=>∃ (S1:Nat→Prop) (p10:Option Addr) (ln1:Nat) (k10:Nat) (x1:(List qa9)) (i1:Int),qbB first y1 m x1 i1=some o1∧e=[(2,.int .i64 first),(7,.slice p10 ln1 k10),(19,.slice p8 y1.Aq.length k8),(20,.int .i64 (y1.Aq.length:Int)),(21,.int .i64 i1)]∧SH w w' [Ch.own S1 (x1:List qa9) [.slice p10 ln1 k10]]) n ⟨_,_,_,_,_,_,hF,rfl,h⟩ rfl ?_
 rintro m1 e1 w3 ⟨S1,p10,ln1,k10,x1,i1,hF,rfl,h⟩
 obtain rfl:=(h.sl 0 rfl).2
 rcases m1 with _|m1
 ·cases hF
 refine X0 5 rfl (qk rfl hF ?_ ?_)<;>intro hF
 ·refine X0 6 rfl ?_
  obtain ⟨y2,hy2,hF,he2,b2,_,q2,cs4,hp2,hq2,hr2,hc3⟩:=s8.ix hF
  obtain ⟨p11,k11,p12,k12,rfl,s10,s11⟩:=qaL hr2
  refine zxe hp2 hq2 he2 rfl (zc 0 (hc3.below h.below) rfl (qB qb h rfl rfl rfl fun w4 bb3 h=>zp1 rfl (zs 0 h rfl fun w5 h=>X1 4 0 h rfl (zcL h hF (qjn (qiE y2 (h.oldS s10) (h.oldS s11))) rfl fun r1 w6 S2 p13 k13 h hF=>X0 3 rfl ?_))))
  obtain ⟨o2,hF,hK2⟩:=qe hF
  refine ql (rL (fun m e w'=>∃ (S3:Nat→Prop) (p14:Option Addr) (ln2:Nat) (k14:Nat) (x2:(List qa9)) (i2:Int),qbz first i1 y2 r1 m x2 i2=some o2∧e=[(2,.int .i64 first),(7,.slice p14 ln2 k14),(8,.int .i64 i1),(9,.pointer (some ⟨bb3,0,none⟩)),(19,.slice p8 y1.Aq.length k8),(20,.int .i64 (y1.Aq.length:Int)),(21,.int .i64 i1),(27,.slice p13 r1.length k13),(28,.int .i64 (r1.length:Int)),(29,.int .i64 i2)]∧SH w w' [Ch.own S2 (r1:List qR) [.slice p13 r1.length k13],Ch.box bb3 (qf3 y2 p11 p12 k11 k12) 206,Ch.own S3 (x2:List qa9) [.slice p14 ln2 k14]]) m1 ⟨_,_,_,_,_,_,hF,rfl,h⟩ rfl ?_)
  rintro m2 e2 w7 ⟨S3,p14,ln2,k14,x2,i2,hF,rfl,h⟩
  obtain rfl:=(h.sl 2 rfl).2
  rcases m2 with _|m2
  ·cases hF
  refine X0 5 rfl (qk rfl hF ?_ ?_)<;>intro hF
  ·refine zKSBSR ?_
   obtain ⟨y3,hy3,hF,he3,b3,_,q3,cs5,hp3,hq3,hr4,hc5⟩:=(h.sl 0 rfl).1.ix hF
   obtain rfl:=qoL hr4
   refine zx hp3 hq3 ⟨he3.1,qI he3.2.1 (h.sl 0 rfl).2⟩ rfl (zc 0 hc5 rfl (qB qb h rfl rfl rfl fun w8 bb4 h=>zs 0 h rfl fun w9 h=>X1 8 2 h rfl (r_v (qto (iv:=0) qb rfl rfl (by decide) ⟨rfl,rfl⟩ rfl rfl) rfl (X2 7 0 2 h rfl (r_v (qto (iv:=1) qb rfl rfl (by decide) ⟨rfl,rfl⟩ rfl rfl) rfl (X1 3 0 h rfl (r_v (qat qb [0,1,2,3] [.tmp 41,.tmp 49,.const (.int .i64 (1)),.tmp 50] rfl rfl rfl rfl rfl rfl rfl rfl) rfl (qm qb [.tmp 51] _ ([(⟨W64 ((W64 (2*(W64 (first+y2.As))))+y3.e0),W64 ((W64 (2*(W64 (first+y2.To))))+y3.e1),1,i1⟩:qa9)]:List qa9) h rfl rfl rfl rfl rfl rfl rfl rfl rfl ⟨(qof (⟨W64 ((W64 (2*(W64 (first+y2.As))))+y3.e0),W64 ((W64 (2*(W64 (first+y2.To))))+y3.e1),1,i1⟩:qa9)),trivial⟩ rfl fun w10 p15 S4 h=>?_))))))))
   obtain ⟨x3,hx1,hF⟩:=qe hF
   obtain ⟨g1,hx1⟩:=qr hx1
   refine qaf qb 4 h rfl (h.sl 0 rfl).1 (h.sl 0 rfl).2 rfl rfl rfl rfl rfl rfl rfl rfl rfl g1 hx1 rfl fun w11 p16 k15 S5 h=>X0 7 rfl ?_
   replace h:=h.pick [2,3,4] rfl
   exact rK ⟨_,_,_,_,_,_,hF,rfl,h⟩ rfl
  refine qp rfl ?_
  obtain rfl:=qc hF;replace hF:=hK2
  refine X0 5 rfl ?_
  replace h:=h.pick [2] rfl
  exact rK ⟨_,_,_,_,_,_,hF,rfl,h⟩ rfl
 refine qp rfl ?_
 obtain rfl:=qc hF;replace hF:=hK1
 refine X0 5 rfl ?_
 obtain rfl:=qc hF
 exact rO 0 h rfl ⟨rfl,trivial⟩
def qcM (_:Nat) (s:(List Int)):Option (List Int) :=
 appS ([]:List Int) s
theorem qhl {s:(List Int)} (ha1:GoT.R w (old w) s cs1) {r:(List Int)} (hF:qcM n s=some r):RetV Tryz.prog 163 [GoT.v (List Int) cs1] w r:=by
 obtain ⟨p,k,rfl,s1⟩:=ha1
 obtain ⟨g1,hx⟩:=qr (show appS ([]:List Int) s=some r from hF)
 cases p with
 | none =>
  obtain rfl:=qo6 s1
  obtain rfl:[]=r:=hx
  exact zV 8 Tryz.func163 rfl fun h=>X0 8 rfl (r_v (qoV qb rfl rfl rfl rfl rfl) rfl (qa5 (qdF rfl rfl (X0 4 rfl (qar qb (ρ:=(List Int)) [GoT.v (List Int) [.slice none 0 0]] h ⟨rfl,trivial⟩ (PV.done h (qaD qeO)))))))
 | some a =>
  refine zV 8 Tryz.func163 rfl fun h=>X0 8 rfl (r_v (qoV qb rfl rfl rfl rfl rfl) rfl (qa5 (qbJ rfl rfl (zKSR (qm qb [] _ ([]:List Int) h rfl rfl rfl rfl rfl rfl rfl rfl rfl trivial rfl fun w1 p1 S1 h=>zp1 rfl (qmo qb 0 h rfl (h.oldS s1) rfl rfl rfl rfl rfl rfl rfl rfl rfl rfl g1 rfl fun w2 p2 k2 S2 h=>?_))))))
  rw [hx] at h
  exact X0 2 rfl (qar qb (ρ:=(List Int)) [GoT.v (List Int) [.slice p2 (([]:List Int).length+s.length) k2]] h ⟨rfl,trivial⟩ (PV.done h (qaD (qC 0 h rfl))))
def qaU (net:Int) (r1:(List Tplace)):Nat→(List Int)→Int→Option ((List Int) × Int)
 | 0,_,_=>none
 | n+1,x1,i1 =>
  bif decide (i1<(r1.length:Int)) then
   (idx r1 i1).bind fun y1 =>
   bif (y1.net==net) then
    bif (!y1.drives) then
     (appS x1 ([i1]:List Int)).bind fun x2 =>
     qaU net r1 n x2 (W64 (i1+1))
    else
     qaU net r1 n x1 (W64 (i1+1))
   else
    qaU net r1 n x1 (W64 (i1+1))
  else
   some (x1,i1)
def qfK (n:Nat) (d:qg) (net:Int):Option (List Int) :=
 (qb3 n d).bind fun r1 =>
 (qaU net r1 n ([]:List Int) 0).bind fun o=>match o with
 | (x1,_) =>
  some x1
theorem qj7 {d:qg} {net:Int} (ha1:GoT.R w (old w) d cs1) {r:(List Int)} (hF:qfK n d net=some r):RetV Tryz.prog 190 [GoT.v qg cs1,.int .i64 net] w r:=by
 obtain ⟨p1,k1,p2,k2,p3,k3,rfl,s1,s2,s3⟩:=qaF ha1
 refine zV 31 Tryz.func190 rfl fun h=>zSR (qO h rfl rfl fun w1 bb1 h=>X1 10 0 h rfl (zcL h hF (qeb (h.old ha1)) rfl fun r1 w2 S1 p4 k4 h hF=>X0 3 rfl ?_))
 replace h:=h.nil (α:=Int)
 obtain ⟨o1,hF,hK1⟩:=qe hF
 refine ql ?_
 replace h:=h.pick [0,1] rfl
 refine rL (fun m e w'=>∃ (S2:Nat→Prop) (p5:Option Addr) (ln1:Nat) (k5:Nat) (x1:(List Int)) (i1:Int),qaU net r1 m x1 i1=some o1∧e=[(1,.int .i64 net),(5,.slice p5 ln1 k5),(9,.slice p4 r1.length k4),(10,.int .i64 (r1.length:Int)),(11,.int .i64 i1)]∧SH w w' [Ch.own S2 (x1:List Int) [.slice p5 ln1 k5],Ch.own S1 (r1:List Tplace) [.slice p4 r1.length k4]]) n ⟨_,_,_,_,_,_,hF,rfl,h⟩ rfl ?_
 rintro m1 e1 w3 ⟨S2,p5,ln1,k5,x1,i1,hF,rfl,h⟩
 obtain rfl:=(h.sl 0 rfl).2
 rcases m1 with _|m1
 ·cases hF
 refine X0 5 rfl (qk rfl hF ?_ ?_)<;>intro hF
 ·refine X0 6 rfl ?_
  obtain ⟨y1,hy1,hF,he1,b1,_,q1,cs2,hp1,hq1,hr2,hc2⟩:=(h.sl 1 rfl).1.ix hF
  obtain rfl:=qcf hr2
  refine zx hp1 hq1 ⟨he1.1,qI he1.2.1 (h.sl 1 rfl).2⟩ rfl (zc 0 hc2 rfl (qB qb h rfl rfl rfl fun w4 bb2 h=>zp1 rfl (zs 0 h rfl fun w5 h=>X1 8 0 h rfl (qh (t:=20) hF rfl ?_ ?_))))<;>intro hF
  ·refine X1 8 0 h rfl (qk rfl hF ?_ ?_)<;>intro hF
   ·refine X0 3 rfl (qm qb [.tmp 26] _ ([i1]:List Int) h rfl rfl rfl rfl rfl rfl rfl rfl rfl ⟨rfl,trivial⟩ rfl fun w6 p6 S3 h=>?_)
    obtain ⟨x2,hx1,hF⟩:=qe hF
    obtain ⟨g1,hx1⟩:=qr hx1
    refine qaf qb 2 h rfl (h.sl 0 rfl).1 (h.sl 0 rfl).2 rfl rfl rfl rfl rfl rfl rfl rfl rfl g1 hx1 rfl fun w7 p7 k6 S4 h=>X0 7 rfl ?_
    replace h:=h.pick [2,3] rfl
    exact rK ⟨_,_,_,_,_,_,hF,rfl,h⟩ rfl
   refine X0 6 rfl ?_
   replace h:=h.pick [1,2] rfl
   exact rK ⟨_,_,_,_,_,_,hF,rfl,h⟩ rfl
  refine X0 5 rfl (qbJ rfl rfl (X0 6 rfl ?_))
  replace h:=h.pick [1,2] rfl
  exact rK ⟨_,_,_,_,_,_,hF,rfl,h⟩ rfl
 refine qp rfl ?_
 obtain rfl:=qc hF;replace hF:=hK1
 refine X0 5 rfl ?_
 obtain rfl:=qc hF
 exact rO 0 h rfl ⟨rfl,trivial⟩
def qfO (_:Nat) (d:qg) (l:qq) (p:Tplace):Option Int :=
 bif decide (p.instance_<0) then some 0 else
 (idx d.Ab p.instance_).bind fun y1 =>
 (idx l.Aj y1.Az).bind fun y2 =>
 (idx y2.Ap p.pin).bind fun y3 =>
 some y3.Bd
theorem qkf {d:qg} {l:qq} {p:Tplace} (ha1:GoT.R w (old w) d cs1) (ha2:GoT.R w (old w) l cs2) (ha3:GoT.R w (old w) p cs3) {r:Int} (hF:qfO n d l p=some r):RetV Tryz.prog 191 [GoT.v qg cs1,GoT.v qq cs2,GoT.v Tplace cs3] w r:=by
 obtain ⟨p1,k1,p2,k2,p3,k3,rfl,s1,s2,s3⟩:=qaF ha1
 obtain ⟨p4,k4,rfl,s4⟩:=qbY ha2
 obtain rfl:=qcf ha3
 refine zV 27 Tryz.func191 rfl fun h=>zSR (qO h rfl rfl fun w1 bb1 h=>qO h rfl rfl fun w2 bb2 h=>qO h rfl rfl fun w3 bb3 h=>X1 9 0 h rfl (qk rfl hF ?_ ?_))<;>intro hF
 ·exact X0 4 rfl (ri h hF rfl)
 refine zKS (rD (Y1 2 1 h rfl ?_))
 refine Y1 2 2 h rfl ?_
 refine Y1 2 0 h rfl ?_
 obtain ⟨y1,hy1,hF,he1,b1,_,q1,cs4,hp1,hq1,hr1,hc2⟩:=s1.ix hF
 obtain ⟨p5,k5,rfl,s5⟩:=qaB hr1
 refine zdxe hp1 hq1 he1 rfl (zd1 rfl (zdc 1 (hc2.below h.below) rfl ?_))
 obtain ⟨y2,hy2,hF,he2,b2,_,q2,cs5,hp2,hq2,hr2,hc3⟩:=s4.ix hF
 obtain ⟨p6,k6,p7,k7,p8,k8,rfl,s6,s7,s8⟩:=qS hr2
 refine zdxe hp2 hq2 he2 rfl (zd1 rfl (zdc 2 (hc3.below h.below) rfl (Y1 2 0 h rfl ?_)))
 obtain ⟨y3,hy3,hF,he3,b3,_,q3,cs6,hp3,hq3,hr3,hc4⟩:=s6.ix hF
 obtain rfl:=qdR hr3
 exact zdxe hp3 hq3 he3 rfl (zd1 rfl (zdc 2 (hc4.below h.below) rfl (zd1 rfl (dN h fun w4 h=>ri h hF rfl))))
def qbD (y1:qae):Nat→(List Int)→Int→Option ((List Int) × Int)
 | 0,_,_=>none
 | n+1,x2,i2 =>
  bif decide (i2 > 0) then
   (idx y1.Ak i2).bind fun y7 =>
   (idx x2 y7).bind fun y8 =>
   (idx x2 i2).bind fun y9 =>
   (idx x2 y7).bind fun _ =>
   qbD y1 n (setS x2 y7 (W64 (y8+y9))) (W64 (i2-1))
  else
   some (x2,i2)
def qbC (a_0:qd) (y1:qae) (r2:(List Tplace)) (r3:(List Int)):Nat→(List Int)→Int→Option ((List Int) × Int)
 | 0,_,_=>none
 | n+1,x1,i1 =>
  bif decide (i1<(r3.length:Int)) then
   (idx r3 i1).bind fun y2 =>
   (idx y1.Ay i1).bind fun y3 =>
   (idx x1 y3).bind fun y4 =>
   (idx r2 y2).bind fun y5 =>
   (qfO n (⟨a_0.Aa.Ab,a_0.Aa.Ai,a_0.Aa.Ac⟩:qg) (⟨a_0.Af.Aj⟩:qq) y5).bind fun r4 =>
   (idx x1 y3).bind fun _ =>
   qbC a_0 y1 r2 r3 n (setS x1 y3 (W64 (y4+r4))) (W64 (i1+1))
  else
   some (x1,i1)
def qc5 (n:Nat) (a_0:qd) (a_1:Int):Option (List Int) :=
 (idx a_0.Ah a_1).bind fun y1 =>
 (qcM n y1.Bd).bind fun r1 =>
 (qb3 n (⟨a_0.Aa.Ab,a_0.Aa.Ai,a_0.Aa.Ac⟩:qg)).bind fun r2 =>
 (qfK n (⟨a_0.Aa.Ab,a_0.Aa.Ai,a_0.Aa.Ac⟩:qg) a_1).bind fun r3 =>
 (qbC a_0 y1 r2 r3 n r1 0).bind fun o=>match o with
 | (x1,_) =>
  (qbD y1 n x1 (W64 ((r1.length:Int)-1))).bind fun o=>match o with
  | (x2,_) =>
   some x2
theorem qfh {a_0:qd} {a_1:Int} (ha1:GoT.R w (old w) a_0 cs1) {r:(List Int)} (hF:qc5 n a_0 a_1=some r):RetV Tryz.prog 136 [GoT.v qd cs1,.int .i64 a_1] w r:=by
 obtain ⟨p1,k1,p2,k2,p3,k3,p4,k4,p5,k5,rfl,s1,s2,s3,s4,s5⟩:=qD ha1
 refine zV 74 Tryz.func136 rfl fun h=>zSR (qO h rfl rfl fun w1 bb1 h=>X1 7 0 h rfl ?_)
 obtain ⟨y1,hy1,hF,he1,b1,_,q1,cs2,hp1,hq1,hr1,hc1⟩:=s5.ix hF
 obtain ⟨p6,k6,p7,k7,p8,k8,p9,k9,rfl,s6,s7,s8,s9⟩:=qcm hr1
 refine zxe hp1 hq1 he1 rfl (zc 0 (hc1.below h.below) rfl (qB qb h rfl rfl rfl fun w2 bb2 h=>zs 0 h rfl fun w3 h=>X1 5 0 h rfl (zcL h hF (qhl ⟨_,_,rfl,(h.oldS s8)⟩) rfl fun r1 w4 S1 p10 k10 h hF=>X1 6 2 h rfl (zcL h hF (qeb (qa2 _ (h.oldS s2) (h.oldS s3) (h.oldS s4))) rfl fun r2 w5 S2 p11 k11 h hF=>X1 8 3 h rfl (zcL h hF (qj7 (qa2 _ (h.oldS s2) (h.oldS s3) (h.oldS s4))) rfl fun r3 w6 S3 p12 k12 h hF=>X0 3 rfl ?_)))))
 obtain ⟨o1,hF,hK1⟩:=qe hF
 refine ql (rL (fun m e w'=>∃ (x1:(List Int)) (i1:Int),qbC a_0 y1 r2 r3 m x1 i1=some o1∧e=[(2,.pointer (some ⟨bb1,0,none⟩)),(5,.pointer (some ⟨bb2,0,none⟩)),(6,.slice p10 r1.length k10),(7,.slice p11 r2.length k11),(25,.slice p12 r3.length k12),(26,.int .i64 (r3.length:Int)),(27,.int .i64 i1)]∧SH w w' [Ch.own S3 (r3:List Int) [.slice p12 r3.length k12],Ch.own S2 (r2:List Tplace) [.slice p11 r2.length k11],Ch.own S1 (x1:List Int) [.slice p10 r1.length k10],Ch.box bb2 (qgH y1 p6 p7 p8 p9 k6 k7 k8 k9) 148,Ch.box bb1 (qA a_0 p1 p2 p3 p4 p5 k1 k2 k3 k4 k5) 34]) n ⟨_,_,hF,rfl,h⟩ rfl ?_)
 rintro m1 e1 w7 ⟨x1,i1,hF,rfl,h⟩
 rcases m1 with _|m1
 ·cases hF
 refine X0 5 rfl (qk rfl hF ?_ ?_)<;>intro hF
 ·refine X0 6 rfl ?_
  obtain ⟨y2,hy2,hF,he2,b2,_,q2,cs3,hp2,hq2,rfl,hc3⟩:=(h.sl 0 rfl).1.ix hF
  refine zx hp2 hq2 ⟨he2.1,qI he2.2.1 (h.sl 0 rfl).2⟩ rfl (zc 0 hc3 rfl (X0 3 rfl (rA [19] [1,2,3,4] h rfl fun w8 h=>M1 15 [0,1,2,3] 2 (h.pick [1,2,3,4] rfl) rfl ?_)))
  obtain ⟨y3,hy3,hF,he3,b3,_,q3,cs4,hp3,hq3,rfl,hc4⟩:=s9.ix hF
  refine Ae 4 31 hp3 hq3 he3 (h.pick [1,2,3,4] rfl) rfl (Al 5 63 0 hc4 (h.pick [1,2,3,4] rfl) rfl ?_)
  obtain ⟨y4,hy4,hF,he4,b4,_,q4,cs5,hp4,hq4,rfl,hc5⟩:=(h.sl 2 rfl).1.ix hF
  refine Ax 6 127 hp4 hq4 ⟨he4.1,qI he4.2.1 (h.sl 2 rfl).2⟩ (h.pick [1,2,3,4] rfl) rfl (Aw 7 255 (fun w' hw=>qfk qb (qbo (w1:=w) (S1:=fun _=>False) hw 1 rfl hy4 hp4 hq4 rfl) (j:=0) rfl rfl rfl) (h.pick [1,2,3,4] rfl) rfl ?_)
  refine M2 16383 [8,9,10,11,12,13] 3 3 (h.pick [1,2,3,4] rfl) rfl ?_
  obtain ⟨y5,hy5,hF,he5,b5,_,q5,cs6,hp5,hq5,hr8,hc6⟩:=(h.sl 1 rfl).1.ix hF
  obtain rfl:=qcf hr8
  refine Ax 14 32767 hp5 hq5 ⟨he5.1,qI he5.2.1 (h.sl 1 rfl).2⟩ (h.pick [1,2,3,4] rfl) rfl (Aw 15 65535 (fun w' hw=>qfk qb (qbo hw 0 rfl hy5 hp5 hq5 (qgO (w:=w) (S:=fun _=>False) y5)) (j:=0) rfl rfl rfl) (h.pick [1,2,3,4] rfl) rfl ?_)
  refine Ao 16 131071 rfl (zcI h hF (qkf (qa2 _ (h.oldS s2) (h.oldS s3) (h.oldS s4)) (qeH _ (h.oldS s1)) (qgO y5)) rfl fun r4 w9 h hF=>G0 262143 [17] (h.pick [1,2,3,4] rfl) rfl ?_)
  obtain ⟨y6,hy6,hF,he6,b6,_,q6,cs7,hp6,hq6,rfl,hc7⟩:=(h.sl 2 rfl).1.ix hF
  exact Ax 18 524287 hp6 hq6 ⟨he6.1,qI he6.2.1 (h.sl 2 rfl).2⟩ (h.pick [1,2,3,4] rfl) rfl (Ao 19 1048575 rfl (qbE qb 2 0 (W64 (y4+r4)) h rfl hy6 hp6 hq6 rfl hc7 rfl rfl rfl rfl rfl rfl rfl fun w10 h=>qeh (fun hs=>absurd (hs 19 (by decide)) (by decide)) (Ad (X0 5 rfl (rK ⟨_,_,hF,rfl,h⟩ rfl)))))
 refine qp rfl ?_
 obtain rfl:=qc hF;replace hF:=hK1
 refine X0 8 rfl ?_
 obtain ⟨o2,hF,hK2⟩:=qe hF
 refine ql ?_
 replace h:=h.pick [2,3] rfl
 refine rL (fun m e w'=>∃ (x2:(List Int)) (i2:Int),qbD y1 m x2 i2=some o2∧e=[(5,.pointer (some ⟨bb2,0,none⟩)),(6,.slice p10 r1.length k10),(10,.int .i64 i2)]∧SH w w' [Ch.own S1 (x2:List Int) [.slice p10 r1.length k10],Ch.box bb2 (qgH y1 p6 p7 p8 p9 k6 k7 k8 k9) 148]) n ⟨_,_,hF,rfl,h⟩ rfl ?_
 rintro m2 e2 w11 ⟨x2,i2,hF,rfl,h⟩
 rcases m2 with _|m2
 ·cases hF
 refine X0 6 rfl (qk rfl hF ?_ ?_)<;>intro hF
 ·refine zKSB (rA [14] [0,1] h rfl fun w12 h=>M1 15 [0,1,2,3] 1 (h.pick [0,1] rfl) rfl ?_)
  obtain ⟨y7,hy7,hF,he7,b7,_,q7,cs8,hp7,hq7,rfl,hc9⟩:=s6.ix hF
  refine Ae 4 31 hp7 hq7 he7 (h.pick [0,1] rfl) rfl (Al 5 63 0 hc9 (h.pick [0,1] rfl) rfl ?_)
  obtain ⟨y8,hy8,hF,he8,b8,_,q8,cs9,hp8,hq8,rfl,hc10⟩:=(h.sl 0 rfl).1.ix hF
  refine Ax 6 127 hp8 hq8 ⟨he8.1,qI he8.2.1 (h.sl 0 rfl).2⟩ (h.pick [0,1] rfl) rfl (Aw 7 255 (fun w' hw=>qfk qb (qbo (w1:=w) (S1:=fun _=>False) hw 0 rfl hy8 hp8 hq8 rfl) (j:=0) rfl rfl rfl) (h.pick [0,1] rfl) rfl ?_)
  refine M0 1023 [8,9] (h.pick [0,1] rfl) rfl ?_
  obtain ⟨y9,hy9,hF,he9,b9,_,q9,cs10,hp9,hq9,rfl,hc11⟩:=(h.sl 0 rfl).1.ix hF
  refine Ax 10 2047 hp9 hq9 ⟨he9.1,qI he9.2.1 (h.sl 0 rfl).2⟩ (h.pick [0,1] rfl) rfl (Aw 11 4095 (fun w' hw=>qfk qb (qbo (w1:=w) (S1:=fun _=>False) hw 0 rfl hy9 hp9 hq9 rfl) (j:=0) rfl rfl rfl) (h.pick [0,1] rfl) rfl ?_)
  refine M0 8191 [12] (h.pick [0,1] rfl) rfl ?_
  obtain ⟨y10,hy10,hF,he10,b10,_,q10,cs11,hp10,hq10,rfl,hc12⟩:=(h.sl 0 rfl).1.ix hF
  exact Ax 13 16383 hp10 hq10 ⟨he10.1,qI he10.2.1 (h.sl 0 rfl).2⟩ (h.pick [0,1] rfl) rfl (Ao 14 32767 rfl (qbE qb 0 0 (W64 (y8+y9)) h rfl hy10 hp10 hq10 rfl hc12 rfl rfl rfl rfl rfl rfl rfl fun w13 h=>qeh (fun hs=>absurd (hs 14 (by decide)) (by decide)) (Ad (X0 6 rfl (rK ⟨_,_,hF,rfl,h⟩ rfl)))))
 refine qp rfl ?_
 obtain rfl:=qc hF;replace hF:=hK2
 refine X0 5 rfl ?_
 obtain rfl:=qc hF
 exact rO 0 h rfl ⟨rfl,trivial⟩
def qbp (y1:qae) (r1:(List Int)) (x1:(List Int)):Nat→(List Int)→Int→Option ((List Int) × Int)
 | 0,_,_=>none
 | n+1,x2,i1 =>
  bif decide (i1<(x1.length:Int)) then
   (idx y1.Ak i1).bind fun y2 =>
   (idx x2 y2).bind fun y3 =>
   (idx y1.Bh i1).bind fun y4 =>
   (idx r1 i1).bind fun y5 =>
   (idx x2 i1).bind fun _ =>
   qbp y1 r1 x1 n (setS x2 i1 (W64 (y3+(W64 (y4*y5))))) (W64 (i1+1))
  else
   some (x2,i1)
def qfG (n:Nat) (b:qd) (net:Int):Option (List Int) :=
 (idx b.Ah net).bind fun y1 =>
 (qc5 n b net).bind fun r1 =>
 (mkS (r1.length:Int) (0:Int)).bind fun x1 =>
 (qbp y1 r1 x1 n x1 1).bind fun o=>match o with
 | (x2,_) =>
  some x2
theorem qi2 {b:qd} {net:Int} (ha1:GoT.R w (old w) b cs1) {r:(List Int)} (hF:qfG n b net=some r):RetV Tryz.prog 192 [GoT.v qd cs1,.int .i64 net] w r:=by
 obtain ⟨p1,k1,p2,k2,p3,k3,p4,k4,p5,k5,rfl,s1,s2,s3,s4,s5⟩:=qD ha1
 refine zV 49 Tryz.func192 rfl fun h=>zSR (qO h rfl rfl fun w1 bb1 h=>X0 3 rfl (rA [] [0] h rfl fun w2 h=>M1 7 [0,1,2] 0 (h.pick [0] rfl) rfl ?_))
 obtain ⟨y1,hy1,hF,he1,b1,_,q1,cs2,hp1,hq1,hr1,hc1⟩:=s5.ix hF
 obtain ⟨p6,k6,p7,k7,p8,k8,p9,k9,rfl,s6,s7,s8,s9⟩:=qcm hr1
 refine Ae 3 15 hp1 hq1 he1 (h.pick [0] rfl) rfl (Al 4 31 0 hc1 (h.pick [0] rfl) rfl (M1 127 [5,6] 0 (h.pick [0] rfl) rfl ?_))
 obtain ⟨r1,hr2,hF⟩:=qe hF
 refine qmM (fun e w'=>∃ (bb6:Nat) (S5:Nat→Prop) (p14:Option Addr) (k14:Nat),e=[(5,.pointer (some ⟨bb6,0,none⟩)),(6,.slice p14 r1.length k14)]∧SH w w' [Ch.box bb6 (qgH y1 p6 p7 p8 p9 k6 k7 k8 k9) 148,Ch.own S5 (r1:List Int) [.slice p14 r1.length k14],Ch.box bb1 (qA b p1 p2 p3 p4 p5 k1 k2 k3 k4 k5) 34]) 0 (bits 11 2047) ?_ ?_
 ·intro K
  refine At 7 8 255 383 rfl ?_ ?_
  ·exact qlz r1 h (cB 136 rfl) (qfh (h.old ha1) hr2) rfl rfl rfl rfl fun w10 S4 p13 k13 h=>Ag (h.pick [1] rfl) (Ao 8 511 rfl (qB qb h rfl rfl rfl fun w11 bb5 h=>Ag (h.pick [2] rfl) (Ao 9 1023 rfl (zs 0 h rfl fun w12 h=>G0 2047 [10] (h.pick [2] rfl) rfl (qmm [(5,_),(6,_)] ⟨rfl,rfl,trivial⟩ (K _ _ ⟨_,_,_,_,rfl,h⟩))))))
  refine qB qb h rfl rfl rfl fun w10 bb5 h=>Ag (h.pick [1] rfl) (Ao 7 511 rfl (qlz r1 h (cB 136 rfl) (qfh (h.old ha1) hr2) rfl rfl rfl rfl fun w11 S4 p13 k13 h=>Ag (h.pick [2] rfl) (Ao 9 1023 rfl (zs 1 h rfl fun w12 h=>G0 2047 [10] (h.pick [2] rfl) rfl ?_))))
  replace h:=h.pick [1,0,2] rfl
  exact qmm [(5,_),(6,_)] ⟨rfl,rfl,trivial⟩ (K _ _ ⟨_,_,_,_,rfl,h⟩)
 rintro e2 w13 ⟨bb6,S5,p14,k14,rfl,h⟩
 refine Ad (X0 4 rfl ?_)
 obtain ⟨x1,hx1,hF⟩:=qe hF
 obtain ⟨g1,g2,hx1⟩:=qfx hx1
 refine qgC qb Int h rfl rfl rfl rfl rfl rfl rfl rfl rfl g1 g2 hx1 rfl fun w14 S6 p15 h=>X0 7 rfl ?_
 obtain ⟨o1,hF,hK1⟩:=qe hF
 refine ql ?_
 replace h:=h.pick [0,1,2] rfl
 refine rL (fun m e w'=>∃ (x2:(List Int)) (i1:Int),qbp y1 r1 x1 m x2 i1=some o1∧e=[(5,.pointer (some ⟨bb6,0,none⟩)),(6,.slice p14 r1.length k14),(7,.slice p15 x1.length x1.length),(8,.int .i64 i1)]∧SH w w' [Ch.own S6 (x2:List Int) [.slice p15 x1.length x1.length],Ch.box bb6 (qgH y1 p6 p7 p8 p9 k6 k7 k8 k9) 148,Ch.own S5 (r1:List Int) [.slice p14 r1.length k14]]) n ⟨_,_,hF,rfl,h⟩ rfl ?_
 rintro m1 e3 w15 ⟨x2,i1,hF,rfl,h⟩
 rcases m1 with _|m1
 ·cases hF
 refine X0 8 rfl (qk rfl hF ?_ ?_)<;>intro hF
 ·refine zKSB (rA [22] [0,1,2] h rfl fun w16 h=>M1 63 [0,1,2,3,4,5] 1 (h.pick [0,1,2] rfl) rfl ?_)
  obtain ⟨y2,hy2,hF,he2,b2,_,q2,cs3,hp2,hq2,rfl,hc3⟩:=s6.ix hF
  refine Ae 6 127 hp2 hq2 he2 (h.pick [0,1,2] rfl) rfl (Al 7 255 0 hc3 (h.pick [0,1,2] rfl) rfl ?_)
  obtain ⟨y3,hy3,hF,he3,b3,_,q3,cs4,hp3,hq3,rfl,hc4⟩:=(h.sl 0 rfl).1.ix hF
  refine Ax 8 511 hp3 hq3 ⟨he3.1,qI he3.2.1 (h.sl 0 rfl).2⟩ (h.pick [0,1,2] rfl) rfl (Aw 9 1023 (fun w' hw=>qfk qb (qbo (w1:=w) (S1:=fun _=>False) hw 0 rfl hy3 hp3 hq3 rfl) (j:=0) rfl rfl rfl) (h.pick [0,1,2] rfl) rfl ?_)
  refine M1 8191 [10,11,12] 1 (h.pick [0,1,2] rfl) rfl ?_
  obtain ⟨y4,hy4,hF,he4,b4,_,q4,cs5,hp4,hq4,rfl,hc5⟩:=s7.ix hF
  refine Ae 13 16383 hp4 hq4 he4 (h.pick [0,1,2] rfl) rfl (Al 14 32767 0 hc5 (h.pick [0,1,2] rfl) rfl (M0 131071 [15,16] (h.pick [0,1,2] rfl) rfl ?_))
  obtain ⟨y5,hy5,hF,he5,b5,_,q5,cs6,hp5,hq5,rfl,hc6⟩:=(h.sl 2 rfl).1.ix hF
  refine Ax 17 262143 hp5 hq5 ⟨he5.1,qI he5.2.1 (h.sl 2 rfl).2⟩ (h.pick [0,1,2] rfl) rfl (Aw 18 524287 (fun w' hw=>qfk qb (qbo (w1:=w) (S1:=fun _=>False) hw 2 rfl hy5 hp5 hq5 rfl) (j:=0) rfl rfl rfl) (h.pick [0,1,2] rfl) rfl ?_)
  refine M0 2097151 [19,20] (h.pick [0,1,2] rfl) rfl ?_
  obtain ⟨y6,hy6,hF,he6,b6,_,q6,cs7,hp6,hq6,rfl,hc7⟩:=(h.sl 0 rfl).1.ix hF
  exact Ax 21 4194303 hp6 hq6 ⟨he6.1,qI he6.2.1 (h.sl 0 rfl).2⟩ (h.pick [0,1,2] rfl) rfl (Ao 22 8388607 rfl (qbE qb 0 0 (W64 (y3+(W64 (y4*y5)))) h rfl hy6 hp6 hq6 rfl hc7 rfl rfl rfl rfl rfl rfl rfl fun w17 h=>qeh (fun hs=>absurd (hs 22 (by decide)) (by decide)) (Ad (X0 6 rfl (rK ⟨_,_,hF,rfl,h⟩ rfl)))))
 refine qp rfl ?_
 obtain rfl:=qc hF;replace hF:=hK1
 refine X0 5 rfl ?_
 obtain rfl:=qc hF
 exact rO 0 h rfl ⟨rfl,trivial⟩
def qbe (r1:(List Int)) (y1:qae):Nat→(List Int)→Int→Option ((List Int) × Int)
 | 0,_,_=>none
 | n+1,x1,i1 =>
  bif decide (i1<(y1.Ay.length:Int)) then
   (idx y1.Ay i1).bind fun y2 =>
   (idx r1 y2).bind fun y3 =>
   (appS x1 ([y3]:List Int)).bind fun x2 =>
   qbe r1 y1 n x2 (W64 (i1+1))
  else
   some (x1,i1)
def qdL (n:Nat) (b:qd) (net:Int):Option (List Int) :=
 (qfG n b net).bind fun r1 =>
 (idx b.Ah net).bind fun y1 =>
 (qbe r1 y1 n ([]:List Int) 0).bind fun o=>match o with
 | (x1,_) =>
  some x1
theorem qiK {b:qd} {net:Int} (ha1:GoT.R w (old w) b cs1) {r:(List Int)} (hF:qdL n b net=some r):RetV Tryz.prog 137 [GoT.v qd cs1,.int .i64 net] w r:=by
 obtain ⟨p1,k1,p2,k2,p3,k3,p4,k4,p5,k5,rfl,s1,s2,s3,s4,s5⟩:=qD ha1
 refine zV 32 Tryz.func137 rfl fun h=>zSR (qO h rfl rfl fun w1 bb1 h=>X1 6 0 h rfl (zcL h hF (qi2 (h.old ha1)) rfl fun r1 w2 S1 p6 k6 h hF=>X1 12 1 h rfl ?_))
 obtain ⟨y1,hy1,hF,he1,b1,_,q1,cs2,hp1,hq1,hr2,hc1⟩:=s5.ix hF
 obtain ⟨p7,k7,p8,k8,p9,k9,p10,k10,rfl,s6,s7,s8,s9⟩:=qcm hr2
 refine zxe hp1 hq1 he1 rfl (zp1 rfl (zc 3 (hc1.below h.below) rfl (X0 3 rfl ?_)))
 replace h:=h.nil (α:=Int)
 obtain ⟨o1,hF,hK1⟩:=qe hF
 refine ql ?_
 replace h:=h.pick [0,1] rfl
 refine rL (fun m e w'=>∃ (S2:Nat→Prop) (p11:Option Addr) (ln1:Nat) (k11:Nat) (x1:(List Int)) (i1:Int),qbe r1 y1 m x1 i1=some o1∧e=[(5,.slice p6 r1.length k6),(6,.slice p11 ln1 k11),(17,.slice p10 y1.Ay.length k10),(18,.int .i64 (y1.Ay.length:Int)),(19,.int .i64 i1)]∧SH w w' [Ch.own S2 (x1:List Int) [.slice p11 ln1 k11],Ch.own S1 (r1:List Int) [.slice p6 r1.length k6]]) n ⟨_,_,_,_,_,_,hF,rfl,h⟩ rfl ?_
 rintro m1 e1 w3 ⟨S2,p11,ln1,k11,x1,i1,hF,rfl,h⟩
 obtain rfl:=(h.sl 0 rfl).2
 rcases m1 with _|m1
 ·cases hF
 refine X0 5 rfl (qk rfl hF ?_ ?_)<;>intro hF
 ·refine zKSBSR ?_
  obtain ⟨y2,hy2,hF,he2,b2,_,q2,cs3,hp2,hq2,rfl,hc3⟩:=s9.ix hF
  refine zxe hp2 hq2 he2 rfl (zc 0 (hc3.below h.below) rfl (X0 6 rfl ?_))
  obtain ⟨y3,hy3,hF,he3,b3,_,q3,cs4,hp3,hq3,rfl,hc4⟩:=(h.sl 1 rfl).1.ix hF
  refine zx hp3 hq3 ⟨he3.1,qI he3.2.1 (h.sl 1 rfl).2⟩ rfl (zc 0 hc4 rfl (qm qb [.tmp 27] _ ([y3]:List Int) h rfl rfl rfl rfl rfl rfl rfl rfl rfl ⟨rfl,trivial⟩ rfl fun w4 p12 S3 h=>?_))
  obtain ⟨x2,hx1,hF⟩:=qe hF
  obtain ⟨g1,hx1⟩:=qr hx1
  refine qaf qb 1 h rfl (h.sl 0 rfl).1 (h.sl 0 rfl).2 rfl rfl rfl rfl rfl rfl rfl rfl rfl g1 hx1 rfl fun w5 p13 k12 S4 h=>X0 7 rfl ?_
  replace h:=h.pick [1,2] rfl
  exact rK ⟨_,_,_,_,_,_,hF,rfl,h⟩ rfl
 refine qp rfl ?_
 obtain rfl:=qc hF;replace hF:=hK1
 refine X0 5 rfl ?_
 obtain rfl:=qc hF
 exact rO 0 h rfl ⟨rfl,trivial⟩
def qdn (x6:(List Int)) (i4:Int) (i5:Int) (y7:Int):Nat→(List qa9)→Int→Option ((List qa9) × Int)
 | 0,_,_=>none
 | n+1,x14,i6 =>
  bif decide (i6<2) then
   (idx x6 i4).bind fun y8 =>
   (appS x14 ([(⟨W64 ((W64 (2*y8))+i6),W64 ((W64 (2*y7))+i6),2,i5⟩:qa9)]:List qa9)).bind fun x15 =>
   qdn x6 i4 i5 y7 n x15 (W64 (i6+1))
  else
   some (x14,i6)
def qdx (x6:(List Int)) (i4:Int) (y6:(List Int)):Nat→(List qa9)→Int→Option ((List qa9) × Int)
 | 0,_,_=>none
 | n+1,x13,i5 =>
  bif decide (i5<(y6.length:Int)) then
   (idx y6 i5).bind fun y7 =>
   (qdn x6 i4 i5 y7 n x13 0).bind fun o=>match o with
   | (x14,_) =>
    qdx x6 i4 y6 n x14 (W64 (i5+1))
  else
   some (x13,i5)
def qep (a_0:qd) (x5:(List (List Int))) (x6:(List Int)):Nat→(List (List Int))→(List Int)→(List qa9)→Int→Option ((List (List Int)) × (List Int) × (List qa9) × Int)
 | 0,_,_,_,_=>none
 | n+1,x8,x9,x10,i4 =>
  bif decide (i4<(a_0.Ah.length:Int)) then
   (qc5 n a_0 i4).bind fun r4 =>
   (idx r4 0).bind fun y5 =>
   (appS x9 ([y5]:List Int)).bind fun x11 =>
   (qdL n a_0 i4).bind fun r5 =>
   (appS x8 ([r5]:List (List Int))).bind fun x12 =>
   (idx x5 i4).bind fun y6 =>
   (qdx x6 i4 y6 n x10 0).bind fun o=>match o with
   | (x13,_) =>
    qep a_0 x5 x6 n x12 x11 x13 (W64 (i4+1))
  else
   some (x8,x9,x10,i4)
def qcE (r1:(List Tplace)):Nat→(List (List Int))→(List Int)→Int→Option ((List (List Int)) × (List Int) × Int)
 | 0,_,_,_=>none
 | n+1,x5,x6,i3 =>
  bif decide (i3<(r1.length:Int)) then
   (idx r1 i3).bind fun y2 =>
   bif y2.drives then
    (idx x6 y2.net).bind fun _ =>
    qcE r1 n x5 (setS x6 y2.net i3) (W64 (i3+1))
   else
    (idx x5 y2.net).bind fun y4 =>
    (appS y4 ([i3]:List Int)).bind fun x7 =>
    qcE r1 n (setS x5 y2.net x7) x6 (W64 (i3+1))
  else
   some (x5,x6,i3)
def qer (a_0:qd):Nat→(List qa9)→Int→Int→Option ((List qa9) × Int × Int)
 | 0,_,_,_=>none
 | n+1,x1,i1,i2 =>
  bif decide (i2<(a_0.Aa.Ab.length:Int)) then
   (idx a_0.Aa.Ab i2).bind fun y1 =>
   (qey n a_0 y1 i1).bind fun r2 =>
   (appS x1 r2).bind fun x2 =>
   (qV n y1.Ai).bind fun r3 =>
   qer a_0 n x2 (W64 (i1+r3)) (W64 (i2+1))
  else
   some (x1,i1,i2)
def qij (n:Nat) (a_0:qd):Option (Option Tview) :=
 (qb3 n (⟨a_0.Aa.Ab,a_0.Aa.Ai,a_0.Aa.Ac⟩:qg)).bind fun r1 =>
 (qer a_0 n ([]:List qa9) 0 0).bind fun o=>match o with
 | (x1,_,_) =>
  (mkS (a_0.Ah.length:Int) (0:Int)).bind fun x3 =>
  (mkS (a_0.Ah.length:Int) ([]:(List Int))).bind fun x4 =>
  (qcE r1 n x4 x3 0).bind fun o=>match o with
  | (x5,x6,_) =>
   (qep a_0 x5 x6 n ([]:List (List Int)) ([]:List Int) x1 0).bind fun o=>match o with
   | (x8,x9,x10,_) =>
    some (some (⟨(⟨(⟨a_0.Af.Aj⟩:qq),(⟨a_0.Aa.Ab,a_0.Aa.Ai,a_0.Aa.Ac⟩:qg),a_0.Ah⟩:qd),r1,x10,x9,x8,[]⟩:Tview))
theorem qms {A:Nat→Prop} (hA:∀ b,A b→old w b) {a_0:qd} (ha1:GoT.R w A a_0 cs1) {r:(Option Tview)} (hF:qij n a_0=some r):RetG Tryz.prog 75 [GoT.v qd cs1] w A r:=by
 obtain ⟨p1,k1,p2,k2,p3,k3,p4,k4,p5,k5,rfl,s1,s2,s3,s4,s5⟩:=qD ha1
 have hg:=Rg.start hA
 refine qf6 Tryz.func75 rfl (m:=156) rfl rfl (fun h=>?_)
 refine zSR (qO h rfl rfl fun w1 bb1 h=>X0 3 rfl (rA [] [0] h rfl fun w2 h=>M2 7 [0,1,2] 0 0 (h.pick [0] rfl) rfl (Ao 3 15 rfl (zcL h hF (qeb (qa2 _ (h.oldS (s2.mono hg.old)) (h.oldS (s3.mono hg.old)) (h.oldS (s4.mono hg.old)))) rfl fun r1 w3 S1 p6 k6 h hF=>Ag (h.pick [1] rfl) (Aw 4 31 (fun w' hw=>qat qb [0,1] [.tmp 15,.tmp 18] rfl rfl rfl rfl rfl rfl rfl rfl) (h.pick [1] rfl) rfl ?_)))))
 refine Ao 5 63 rfl (qO h rfl rfl fun w4 bb2 h=>G0 127 [6] (h.pick [2] rfl) rfl (Ad (X1 13 2 h rfl ?_)))
 replace h:=h.nil (α:=qa9)
 obtain ⟨o1,hF,hK1⟩:=qe hF
 refine ql (rL (fun m e w'=>∃ (S2:Nat→Prop) (p7:Option Addr) (ln1:Nat) (k7:Nat) (x1:(List qa9)) (i1:Int) (i2:Int),qer a_0 m x1 i1 i2=some o1∧e=[(1,.pointer (some ⟨bb1,0,none⟩)),(3,.pointer (some ⟨bb2,0,none⟩)),(4,.int .i64 i1),(23,.slice p2 a_0.Aa.Ab.length k2),(24,.int .i64 (a_0.Aa.Ab.length:Int)),(25,.int .i64 i2)]∧SH w w' [Ch.own S2 (x1:List qa9) [.slice p7 ln1 k7],Ch.box bb2 [.slice p1 a_0.Af.Aj.length k1,.slice p2 a_0.Aa.Ab.length k2,.slice p3 a_0.Aa.Ai.length k3,.slice p4 a_0.Aa.Ac.length k4,.slice p5 a_0.Ah.length k5,.slice p6 r1.length k6,.slice p7 ln1 k7,.slice none 0 0,.slice none 0 0,.slice none 0 0] 135,Ch.own S1 (r1:List Tplace) [.slice p6 r1.length k6],Ch.box bb1 (qA a_0 p1 p2 p3 p4 p5 k1 k2 k3 k4 k5) 34]) n ⟨_,_,_,_,_,_,_,hF,rfl,h⟩ rfl ?_)
 rintro m1 e1 w5 ⟨S2,p7,ln1,k7,x1,i1,i2,hF,rfl,h⟩
 obtain rfl:=(h.sl 0 rfl).2
 rcases m1 with _|m1
 ·cases hF
 refine X0 5 rfl (qk rfl hF ?_ ?_)<;>intro hF
 ·refine zKSBSR ?_
  obtain ⟨y1,hy1,hF,he1,b1,_,q1,cs2,hp1,hq1,hr2,hc2⟩:=s2.ix hF
  obtain ⟨p8,k8,rfl,s6⟩:=qaB hr2
  refine zxe hp1 hq1 he1 rfl (zc 0 (hc2.below h.below) rfl (qB qb h rfl rfl rfl fun w6 bb3 h=>zs 0 h rfl fun w7 h=>zNS (rA [12] [0,2,4] h rfl fun w8 h=>M3 255 [0,1,2,3,4,5,6,7] 1 2 0 (h.pick [0,2,4] rfl) rfl (Ao 8 511 rfl (zcL h hF (qjx (h.old (GoT.mono ha1 hg.old)) (qk8 y1 (h.oldS (s6.mono hg.old)))) rfl fun r2 w9 S3 p9 k9 h hF=>Ag (h.pick [1,3,5] rfl) (Ao 9 1023 rfl ?_))))))
  obtain ⟨x2,hx1,hF⟩:=qe hF
  obtain ⟨g1,hx1⟩:=qr hx1
  refine qaf qb 2 h rfl (h.sl 0 rfl).1 (h.sl 0 rfl).2 rfl rfl rfl rfl rfl rfl rfl rfl rfl g1 hx1 rfl fun w10 p10 k10 S4 h=>Ag (h.pick [1,3,5] rfl) (Ao 10 2047 rfl (zp1 rfl (G0 4095 [11] (h.pick [1,3,5] rfl) rfl (Ao 12 8191 rfl (zs 3 h rfl fun w11 h=>qeh (fun hs=>absurd (hs 12 (by decide)) (by decide)) (Ad (X1 4 1 h rfl (zcI h hF (qaJ ⟨_,_,rfl,(h.oldS (s6.mono hg.old))⟩) rfl fun r3 w12 h hF=>X0 8 rfl ?_))))))))
  replace h:=h.pick [2,3,4,5] rfl
  exact rK ⟨_,_,_,_,_,_,_,hF,rfl,h⟩ rfl
 refine qp rfl ?_
 obtain rfl:=qc hF;replace hF:=hK1
 refine X1 5 3 h rfl ?_
 obtain ⟨x3,hx2,hF⟩:=qe hF
 obtain ⟨g2,g3,hx2⟩:=qfx hx2
 refine qgC qb Int h rfl rfl rfl rfl rfl rfl rfl rfl rfl g2 g3 hx2 rfl fun w13 S5 p11 h=>X1 7 4 h rfl ?_
 obtain ⟨x4,hx3,hF⟩:=qe hF
 obtain ⟨g4,g5,hx3⟩:=qfx hx3
 refine qgC qb (List Int) h rfl rfl rfl rfl rfl rfl rfl rfl rfl g4 g5 hx3 rfl fun w14 S6 p12 h=>X1 12 3 h rfl ?_
 obtain ⟨o2,hF,hK2⟩:=qe hF
 refine ql (rL (fun m e w'=>∃ (S7:Nat→Prop) (x5:(List (List Int))) (x6:(List Int)) (i3:Int),qcE r1 m x5 x6 i3=some o2∧e=[(1,.pointer (some ⟨bb1,0,none⟩)),(3,.pointer (some ⟨bb2,0,none⟩)),(7,.slice p11 x3.length x3.length),(8,.slice p12 x4.length x4.length),(58,.slice p6 r1.length k6),(59,.int .i64 (r1.length:Int)),(60,.int .i64 i3)]∧SH w w' [Ch.own S7 (x5:List (List Int)) [.slice p12 x4.length x4.length],Ch.own S5 (x6:List Int) [.slice p11 x3.length x3.length],Ch.own S2 (x1:List qa9) [.slice p7 x1.length k7],Ch.box bb2 [.slice p1 a_0.Af.Aj.length k1,.slice p2 a_0.Aa.Ab.length k2,.slice p3 a_0.Aa.Ai.length k3,.slice p4 a_0.Aa.Ac.length k4,.slice p5 a_0.Ah.length k5,.slice p6 r1.length k6,.slice p7 x1.length k7,.slice none 0 0,.slice none 0 0,.slice none 0 0] 135,Ch.own S1 (r1:List Tplace) [.slice p6 r1.length k6],Ch.box bb1 (qA a_0 p1 p2 p3 p4 p5 k1 k2 k3 k4 k5) 34]) n ⟨_,_,_,_,hF,rfl,h⟩ rfl ?_)
 rintro m2 e2 w15 ⟨S7,x5,x6,i3,hF,rfl,h⟩
 rcases m2 with _|m2
 ·cases hF
 refine X0 5 rfl (qk rfl hF ?_ ?_)<;>intro hF
 ·refine X0 6 rfl ?_
  obtain ⟨y2,hy2,hF,he2,b2,_,q2,cs3,hp2,hq2,hr5,hc4⟩:=(h.sl 4 rfl).1.ix hF
  obtain rfl:=qcf hr5
  refine zx hp2 hq2 ⟨he2.1,qI he2.2.1 (h.sl 4 rfl).2⟩ rfl (zc 0 hc4 rfl (qB qb h rfl rfl rfl fun w16 bb4 h=>zp1 rfl (zs 0 h rfl fun w17 h=>X1 6 0 h rfl (qk rfl hF ?_ ?_))))<;>intro hF
  ·refine X1 5 0 h rfl ?_
   obtain ⟨y3,hy3,hF,he3,b3,_,q3,cs4,hp3,hq3,rfl,hc6⟩:=(h.sl 2 rfl).1.ix hF
   refine zx hp3 hq3 ⟨he3.1,qI he3.2.1 (h.sl 2 rfl).2⟩ rfl (qbE qb 2 0 i3 h rfl hy3 hp3 hq3 rfl hc6 rfl rfl rfl rfl rfl rfl rfl fun w18 h=>X0 6 rfl ?_)
   replace h:=h.pick [1,2,3,4,5,6] rfl
   exact rK ⟨_,_,_,_,hF,rfl,h⟩ rfl
  obtain ⟨y4,hy4,hF⟩:=qe hF
  have he4:=qax hy4
  replace h:=h.pick [1,0,2,3,4,5,6] rfl
  obtain ⟨S8,S9,cs5,h⟩:=h.take hy4
  obtain ⟨p13,k11,rfl,-⟩:=h.own 0 rfl
  refine rA [12] [1,2] h rfl fun w19 h=>M2 63 [0,1,2,3,4,5] 1 1 (h.pick [1,2] rfl) rfl ?_
  obtain ⟨b4,hp4,-,-,hl2⟩:=h.holeAt 1 rfl
  obtain ⟨q4,hq4⟩:∃ q,q=0+(y2.net).toNat*GoT.k (List Int):=⟨_,rfl⟩
  refine Ax 6 127 hp4 hq4 ⟨he4.1,qI he4.2.1 hl2⟩ (h.pick [1,2] rfl) rfl (Aw 7 255 (fun w' hw=>qfk qb (qfr hw 0 rfl hp4 hq4) (j:=0) rfl rfl rfl) (h.pick [1,2] rfl) rfl ?_)
  refine M0 511 [8] (h.pick [1,2] rfl) rfl (Ao 9 1023 rfl (qm qb [.tmp 80] _ ([i3]:List Int) h rfl rfl rfl rfl rfl rfl rfl rfl rfl ⟨rfl,trivial⟩ rfl fun w20 p14 S10 h=>Ag (h.pick [2,3] rfl) (Ao 10 2047 rfl ?_)))
  obtain ⟨x7,hx4,hF⟩:=qe hF
  obtain ⟨g6,hx4⟩:=qr hx4
  refine qaf qb 1 h rfl (h.sl 0 rfl).1 (h.sl 0 rfl).2 rfl rfl rfl rfl rfl rfl rfl rfl rfl g6 hx4 rfl fun w21 p15 k12 S11 h=>Ag (h.pick [2,3] rfl) ?_
  obtain ⟨b5,hp5,-,-,hl4⟩:=h.holeAt 2 rfl
  obtain ⟨q5,hq5⟩:∃ q,q=0+(y2.net).toNat*GoT.k (List Int):=⟨_,rfl⟩
  refine Ax 11 4095 hp5 hq5 ⟨he4.1,qI he4.2.1 hl4⟩ (h.pick [2,3] rfl) rfl (Ao 12 8191 rfl (qjb qb 2 0 h rfl hp5 hq5 rfl rfl rfl rfl rfl rfl fun w22 h=>?_))
  replace h:SH _ _ [Ch.own S10 (([i3]:List Int):List Int) [.slice p14 1 1],Ch.own S11 (x7:List Int) [.slice p15 x7.length k12],Ch.hole S9 (x5:List (List Int)) p12 x4.length x4.length (y2.net).toNat [.slice p15 x7.length k12],Ch.box bb4 (qkA y2) 131,Ch.own S5 (x6:List Int) [.slice p11 x3.length x3.length],Ch.own S2 (x1:List qa9) [.slice p7 x1.length k7],Ch.box bb2 [.slice p1 a_0.Af.Aj.length k1,.slice p2 a_0.Aa.Ab.length k2,.slice p3 a_0.Aa.Ai.length k3,.slice p4 a_0.Aa.Ac.length k4,.slice p5 a_0.Ah.length k5,.slice p6 r1.length k6,.slice p7 x1.length k7,.slice none 0 0,.slice none 0 0,.slice none 0 0] 135,Ch.own S1 (r1:List Tplace) [.slice p6 r1.length k6],Ch.box bb1 (qA a_0 p1 p2 p3 p4 p5 k1 k2 k3 k4 k5) 34]:=h
  refine qeh (fun hs=>absurd (hs 12 (by decide)) (by decide)) (Ad (X0 5 rfl ?_))
  replace h:=h.pick [1,2,0,3,4,5,6,7,8] rfl
  replace h:=h.put
  obtain ⟨S12,h⟩:=qjV (S:=_) h
  replace h:=h.pick [0,3,4,5,6,7] rfl
  exact rK ⟨_,_,_,_,hF,rfl,h⟩ rfl
 refine qp rfl ?_
 obtain rfl:=qc hF;replace hF:=hK2
 refine X1 8 5 h rfl ?_
 replace h:=h.nil (α:=Int)
 replace h:=h.nil (α:=(List Int))
 obtain ⟨o3,hF,hK3⟩:=qe hF
 refine ql (rL (fun m e w'=>∃ (S13:Nat→Prop) (p16:Option Addr) (ln2:Nat) (k13:Nat) (x8:(List (List Int))) (S14:Nat→Prop) (p17:Option Addr) (ln3:Nat) (k14:Nat) (x9:(List Int)) (S15:Nat→Prop) (p18:Option Addr) (ln4:Nat) (k15:Nat) (x10:(List qa9)) (i4:Int),qep a_0 x5 x6 m x8 x9 x10 i4=some o3∧e=[(1,.pointer (some ⟨bb1,0,none⟩)),(3,.pointer (some ⟨bb2,0,none⟩)),(7,.slice p11 x3.length x3.length),(8,.slice p12 x4.length x4.length),(87,.int .i64 (a_0.Ah.length:Int)),(88,.int .i64 i4)]∧SH w w' [Ch.own S13 (x8:List (List Int)) [.slice p16 ln2 k13],Ch.own S14 (x9:List Int) [.slice p17 ln3 k14],Ch.own S7 (x5:List (List Int)) [.slice p12 x4.length x4.length],Ch.own S5 (x6:List Int) [.slice p11 x3.length x3.length],Ch.own S15 (x10:List qa9) [.slice p18 ln4 k15],Ch.box bb2 [.slice p1 a_0.Af.Aj.length k1,.slice p2 a_0.Aa.Ab.length k2,.slice p3 a_0.Aa.Ai.length k3,.slice p4 a_0.Aa.Ac.length k4,.slice p5 a_0.Ah.length k5,.slice p6 r1.length k6,.slice p18 ln4 k15,.slice p17 ln3 k14,.slice p16 ln2 k13,.slice none 0 0] 135,Ch.own S1 (r1:List Tplace) [.slice p6 r1.length k6],Ch.box bb1 (qA a_0 p1 p2 p3 p4 p5 k1 k2 k3 k4 k5) 34]) n ⟨_,_,_,_,_,_,_,_,_,_,_,_,_,_,_,_,hF,rfl,h⟩ rfl ?_)
 rintro m3 e3 w23 ⟨S13,p16,ln2,k13,x8,S14,p17,ln3,k14,x9,S15,p18,ln4,k15,x10,i4,hF,rfl,h⟩
 obtain rfl:=(h.sl 0 rfl).2
 obtain rfl:=(h.sl 1 rfl).2
 obtain rfl:=(h.sl 4 rfl).2
 rcases m3 with _|m3
 ·cases hF
 refine X0 5 rfl (qk rfl hF ?_ ?_)<;>intro hF
 ·refine X0 9 rfl (rA [14] [5,7] h rfl fun w24 h=>M2 127 [0,1,2,3,4,5,6] 0 1 (h.pick [5,7] rfl) rfl (Ao 7 255 rfl (zcL h hF (qfh (h.old (GoT.mono ha1 hg.old))) rfl fun r4 w25 S16 p19 k16 h hF=>Ag (h.pick [6,8] rfl) ?_)))
  obtain ⟨y5,hy5,hF,he5,b6,_,q6,cs6,hp6,hq6,rfl,hc8⟩:=(h.sl 0 rfl).1.ix hF
  refine Ax 8 511 hp6 hq6 ⟨he5.1,qI he5.2.1 (h.sl 0 rfl).2⟩ (h.pick [6,8] rfl) rfl (Ao 9 1023 rfl (zc 0 hc8 rfl (Ag (h.pick [6,8] rfl) (Ao 10 2047 rfl (qm qb [.tmp 100] _ ([y5]:List Int) h rfl rfl rfl rfl rfl rfl rfl rfl rfl ⟨rfl,trivial⟩ rfl fun w26 p20 S17 h=>Ag (h.pick [7,9] rfl) (Ao 11 4095 rfl ?_))))))
  obtain ⟨x11,hx5,hF⟩:=qe hF
  obtain ⟨g7,hx5⟩:=qr hx5
  refine qaf qb 3 h rfl (h.sl 0 rfl).1 (h.sl 0 rfl).2 rfl rfl rfl rfl rfl rfl rfl rfl rfl g7 hx5 rfl fun w27 p21 k17 S18 h=>Ag (h.pick [7,9] rfl) (Ao 12 8191 rfl (zp1 rfl (G0 16383 [13] (h.pick [7,9] rfl) rfl (Ao 14 32767 rfl (zs 7 h rfl fun w28 h=>qeh (fun hs=>absurd (hs 14 (by decide)) (by decide)) (Ad (qf1 (rA [12] [7,9] h rfl fun w29 h=>M2 127 [0,1,2,3,4,5,6] 0 1 (h.pick [7,9] rfl) rfl (Ao 7 255 rfl (zcL h hF (qiK (h.old (GoT.mono ha1 hg.old))) rfl fun r5 w30 S19 p22 k18 h hF=>Ag (h.pick [8,10] rfl) (Ao 8 511 rfl (qdV qb [.tmp 112] _ ([r5]:List (List Int)) [1,2,3,4,5,6,7,8,9,10] h rfl rfl rfl rfl rfl rfl rfl rfl rfl (qcn (qC 0 h rfl) qgr rfl) rfl rfl fun w31 p23 S20 h=>Ag (h.pick [8,10] rfl) (Ao 9 1023 rfl ?_)))))))))))))
  obtain ⟨x12,hx6,hF⟩:=qe hF
  obtain ⟨g8,hx6⟩:=qr hx6
  replace h:=h.pick [0,3,1,2,4,5,6,7,8,9,10] rfl
  refine qkV qb h rfl rfl rfl rfl rfl rfl rfl rfl rfl g8 hx6 rfl fun w32 p24 k19 S21 h=>Ag (h.pick [7,9] rfl) (Ao 10 2047 rfl (zp1 rfl (G0 4095 [11] (h.pick [7,9] rfl) rfl (Ao 12 8191 rfl (zs 7 h rfl fun w33 h=>qeh (fun hs=>absurd (hs 12 (by decide)) (by decide)) (Ad (X0 4 rfl ?_)))))))
  obtain ⟨y6,hy6,hF⟩:=qe hF
  have he6:=qax hy6
  replace h:=h.lrn0 4 rfl
  obtain ⟨b7,o_5,q7,cs7,hp7,hq7,-,hr10,hc9⟩:=(qfz (h.lrnO 4 rfl)).1.at hy6
  have hr11:=hr10
  obtain ⟨p25,k20,rfl,s7⟩:=hr10
  replace h:=h.lrnAdd 4 rfl hr11
  refine zx hp7 hq7 ⟨he6.1,qI he6.2.1 (qfz (h.lrnO 4 rfl)).2⟩ rfl (zc 0 hc9 rfl (X0 3 rfl ?_))
  obtain ⟨o4,hF,hK4⟩:=qe hF
  refine ql ?_
  replace h:=h.pick [0,3,4,5,6,7,8,9] rfl
  refine rL (fun m e w'=>∃ (S22:Nat→Prop) (p26:Option Addr) (ln5:Nat) (k21:Nat) (x13:(List qa9)) (i5:Int),qdx x6 i4 y6 m x13 i5=some o4∧e=[(1,.pointer (some ⟨bb1,0,none⟩)),(3,.pointer (some ⟨bb2,0,none⟩)),(7,.slice p11 x3.length x3.length),(8,.slice p12 x4.length x4.length),(11,.int .i64 i4),(87,.int .i64 (a_0.Ah.length:Int)),(88,.int .i64 i4),(120,.slice p25 y6.length k20),(121,.int .i64 (y6.length:Int)),(122,.int .i64 i5)]∧SH w w' [Ch.own S21 (x12:List (List Int)) [.slice p24 x12.length k19],Ch.own S18 (x11:List Int) [.slice p21 x11.length k17],Ch.lrn S7 (x5:List (List Int)) [.slice p12 x4.length x4.length] [fct (y6:(List Int)) [.slice p25 y6.length k20]],Ch.own S5 (x6:List Int) [.slice p11 x3.length x3.length],Ch.own S22 (x13:List qa9) [.slice p26 ln5 k21],Ch.box bb2 [.slice p1 a_0.Af.Aj.length k1,.slice p2 a_0.Aa.Ab.length k2,.slice p3 a_0.Aa.Ai.length k3,.slice p4 a_0.Aa.Ac.length k4,.slice p5 a_0.Ah.length k5,.slice p6 r1.length k6,.slice p26 ln5 k21,.slice p21 x11.length k17,.slice p24 x12.length k19,.slice none 0 0] 135,Ch.own S1 (r1:List Tplace) [.slice p6 r1.length k6],Ch.box bb1 (qA a_0 p1 p2 p3 p4 p5 k1 k2 k3 k4 k5) 34]) m3 ⟨_,_,_,_,_,_,hF,rfl,h⟩ rfl ?_
  rintro m4 e4 w34 ⟨S22,p26,ln5,k21,x13,i5,hF,rfl,h⟩
  obtain rfl:=(h.sl 4 rfl).2
  rcases m4 with _|m4
  ·cases hF
  refine X0 5 rfl (qk rfl hF ?_ ?_)<;>intro hF
  ·refine X0 6 rfl ?_
   obtain ⟨y7,hy7,hF,he7,b8,_,q8,cs8,hp8,hq8,rfl,hc11⟩:=(qfz (GoT.mono (h.lrnS 2 0 rfl rfl) (h.lrnB 2 rfl))).1.ix hF
   refine zx hp8 hq8 ⟨he7.1,qI he7.2.1 (qfz (GoT.mono (h.lrnS 2 0 rfl rfl) (h.lrnB 2 rfl))).2⟩ rfl (zc 0 hc11 rfl (X0 7 rfl ?_))
   obtain ⟨o5,hF,hK5⟩:=qe hF
   refine ql (rL (fun m e w'=>∃ (S23:Nat→Prop) (p27:Option Addr) (ln6:Nat) (k22:Nat) (x14:(List qa9)) (i6:Int),qdn x6 i4 i5 y7 m x14 i6=some o5∧e=[(1,.pointer (some ⟨bb1,0,none⟩)),(3,.pointer (some ⟨bb2,0,none⟩)),(7,.slice p11 x3.length x3.length),(8,.slice p12 x4.length x4.length),(11,.int .i64 i4),(12,.int .i64 i5),(13,.int .i64 y7),(87,.int .i64 (a_0.Ah.length:Int)),(88,.int .i64 i4),(120,.slice p25 y6.length k20),(121,.int .i64 (y6.length:Int)),(122,.int .i64 i5),(127,.int .i64 i6)]∧SH w w' [Ch.own S21 (x12:List (List Int)) [.slice p24 x12.length k19],Ch.own S18 (x11:List Int) [.slice p21 x11.length k17],Ch.lrn S7 (x5:List (List Int)) [.slice p12 x4.length x4.length] [fct (y6:(List Int)) [.slice p25 y6.length k20]],Ch.own S5 (x6:List Int) [.slice p11 x3.length x3.length],Ch.own S23 (x14:List qa9) [.slice p27 ln6 k22],Ch.box bb2 [.slice p1 a_0.Af.Aj.length k1,.slice p2 a_0.Aa.Ab.length k2,.slice p3 a_0.Aa.Ai.length k3,.slice p4 a_0.Aa.Ac.length k4,.slice p5 a_0.Ah.length k5,.slice p6 r1.length k6,.slice p27 ln6 k22,.slice p21 x11.length k17,.slice p24 x12.length k19,.slice none 0 0] 135,Ch.own S1 (r1:List Tplace) [.slice p6 r1.length k6],Ch.box bb1 (qA a_0 p1 p2 p3 p4 p5 k1 k2 k3 k4 k5) 34]) m4 ⟨_,_,_,_,_,_,hF,rfl,h⟩ rfl ?_)
   rintro m5 e5 w35 ⟨S23,p27,ln6,k22,x14,i6,hF,rfl,h⟩
   obtain rfl:=(h.sl 4 rfl).2
   rcases m5 with _|m5
   ·cases hF
   refine X0 5 rfl (qk rfl hF ?_ ?_)<;>intro hF
   ·refine X0 8 rfl (rA [22] [3,5] h rfl fun w36 h=>M1 127 [0,1,2,3,4,5,6] 1 (h.pick [3,5] rfl) rfl ?_)
    obtain ⟨y8,hy8,hF,he8,b9,_,q9,cs9,hp9,hq9,rfl,hc13⟩:=(h.sl 3 rfl).1.ix hF
    refine Ax 7 255 hp9 hq9 ⟨he8.1,qI he8.2.1 (h.sl 3 rfl).2⟩ (h.pick [3,5] rfl) rfl (Aw 8 511 (fun w' hw=>qfk qb (qbo (w1:=w) (S1:=fun _=>False) hw 0 rfl hy8 hp9 hq9 rfl) (j:=0) rfl rfl rfl) (h.pick [3,5] rfl) rfl ?_)
    refine M0 131071 [9,10,11,12,13,14,15,16] (h.pick [3,5] rfl) rfl (Aw 17 262143 (fun w' hw=>qat qb [0,1,2,3] [.tmp 141,.tmp 145,.const (.int .i64 (2)),.tmp 146] rfl rfl rfl rfl rfl rfl rfl rfl) (h.pick [3,5] rfl) rfl ?_)
    refine Ao 18 524287 rfl (qm qb [.tmp 147] _ ([(⟨W64 ((W64 (2*y8))+i6),W64 ((W64 (2*y7))+i6),2,i5⟩:qa9)]:List qa9) h rfl rfl rfl rfl rfl rfl rfl rfl rfl ⟨(qof (⟨W64 ((W64 (2*y8))+i6),W64 ((W64 (2*y7))+i6),2,i5⟩:qa9)),trivial⟩ rfl fun w37 p28 S24 h=>Ag (h.pick [4,6] rfl) (Ao 19 1048575 rfl ?_))
    obtain ⟨x15,hx7,hF⟩:=qe hF
    obtain ⟨g9,hx7⟩:=qr hx7
    refine qaf qb 5 h rfl (h.sl 0 rfl).1 (h.sl 0 rfl).2 rfl rfl rfl rfl rfl rfl rfl rfl rfl g9 hx7 rfl fun w38 p29 k23 S25 h=>Ag (h.pick [4,6] rfl) (Ao 20 2097151 rfl (zp1 rfl (G0 4194303 [21] (h.pick [4,6] rfl) rfl (Ao 22 8388607 rfl (zs 6 h rfl fun w39 h=>qeh (fun hs=>absurd (hs 22 (by decide)) (by decide)) (Ad (X0 5 rfl ?_)))))))
    replace h:=h.pick [1,2,3,4,5,6,7,8] rfl
    exact rK ⟨_,_,_,_,_,_,hF,rfl,h⟩ rfl
   refine qp rfl ?_
   obtain rfl:=qc hF;replace hF:=hK5
   exact X0 5 rfl (rK ⟨_,_,_,_,_,_,hF,rfl,h⟩ rfl)
  refine qp rfl ?_
  obtain rfl:=qc hF;replace hF:=hK4
  refine X0 5 rfl ?_
  replace h:=h.unlrn 2 rfl
  exact rK ⟨_,_,_,_,_,_,_,_,_,_,_,_,_,_,_,_,hF,rfl,h⟩ rfl
 refine qp rfl ?_
 obtain rfl:=qc hF;replace hF:=hK3
 refine X0 5 rfl ?_
 obtain rfl:=qc hF
 have hv1:GoRs.Rs (ρ:=(Option Tview)) h.wc (reg A w h.wc) (some (⟨(⟨(⟨a_0.Af.Aj⟩:qq),(⟨a_0.Aa.Ab,a_0.Aa.Ai,a_0.Aa.Ac⟩:qg),a_0.Ah⟩:qd),r1,x10,x9,x8,[]⟩:Tview)) [GoT.v (Option Tview) [.pointer (some ⟨bb2,0,none⟩)]]:=⟨_,rfl,(hg.outR h (Rg.boxR (x:=(⟨(⟨(⟨a_0.Af.Aj⟩:qq),(⟨a_0.Aa.Ab,a_0.Aa.Ai,a_0.Aa.Ac⟩:qg),a_0.Ah⟩:qd),r1,x10,x9,x8,[]⟩:Tview)) 5 h rfl (show GoT.R _ _ ((⟨(⟨(⟨a_0.Af.Aj⟩:qq),(⟨a_0.Aa.Ab,a_0.Aa.Ai,a_0.Aa.Ac⟩:qg),a_0.Ah⟩:qd),r1,x10,x9,x8,[]⟩:Tview):Tview) _ from ⟨[.slice p1 a_0.Af.Aj.length k1,.slice p2 a_0.Aa.Ab.length k2,.slice p3 a_0.Aa.Ai.length k3,.slice p4 a_0.Aa.Ac.length k4,.slice p5 a_0.Ah.length k5],[.slice p6 r1.length k6,.slice p18 x10.length k15,.slice p17 x9.length k14,.slice p16 x8.length k13,.slice none 0 0],rfl,⟨[.slice p1 a_0.Af.Aj.length k1],[.slice p2 a_0.Aa.Ab.length k2,.slice p3 a_0.Aa.Ai.length k3,.slice p4 a_0.Aa.Ac.length k4,.slice p5 a_0.Ah.length k5],rfl,⟨_,_,rfl,(hg.inS h s1)⟩,⟨[.slice p2 a_0.Aa.Ab.length k2,.slice p3 a_0.Aa.Ai.length k3,.slice p4 a_0.Aa.Ac.length k4],[.slice p5 a_0.Ah.length k5],rfl,⟨[.slice p2 a_0.Aa.Ab.length k2],[.slice p3 a_0.Aa.Ai.length k3,.slice p4 a_0.Aa.Ac.length k4],rfl,⟨_,_,rfl,(hg.inS h s2)⟩,⟨[.slice p3 a_0.Aa.Ai.length k3],[.slice p4 a_0.Aa.Ac.length k4],rfl,⟨_,_,rfl,(hg.inS h s3)⟩,⟨_,_,rfl,(hg.inS h s4)⟩⟩⟩,⟨_,_,rfl,(hg.inS h s5)⟩⟩⟩,⟨[.slice p6 r1.length k6],[.slice p18 x10.length k15,.slice p17 x9.length k14,.slice p16 x8.length k13,.slice none 0 0],rfl,(Rg.ownR 6 h rfl),⟨[.slice p18 x10.length k15],[.slice p17 x9.length k14,.slice p16 x8.length k13,.slice none 0 0],rfl,(Rg.ownR 4 h rfl),⟨[.slice p17 x9.length k14],[.slice p16 x8.length k13,.slice none 0 0],rfl,(Rg.ownR 1 h rfl),⟨[.slice p16 x8.length k13],[.slice none 0 0],rfl,(Rg.ownR 0 h rfl),⟨_,_,rfl,qow⟩⟩⟩⟩⟩⟩)))⟩
 exact qha qb (ρ:=(Option Tview)) (r:=(some (⟨(⟨(⟨a_0.Af.Aj⟩:qq),(⟨a_0.Aa.Ab,a_0.Aa.Ai,a_0.Aa.Ac⟩:qg),a_0.Ah⟩:qd),r1,x10,x9,x8,[]⟩:Tview))) [GoT.v (Option Tview) [.pointer (some ⟨bb2,0,none⟩)]] h ⟨rfl,trivial⟩ hv1
def qb6 (_:Nat) (v:(Option Tview)) (p:Tplace):Option Bool :=
 bif decide (p.instance_ ≥ 0) then
  (v).bind fun y1 =>
  (idx y1.Be.Aa.Ab p.instance_).bind fun y2 =>
  (idx y1.Be.Af.Aj y2.Az).bind fun y3 =>
  (idx y3.Ap p.pin).bind fun y4 =>
  some y4.Bb
 else
  some false
theorem qe5 {v:(Option Tview)} {p:Tplace} (ha1:GoT.R w (old w) v cs1) (ha2:GoT.R w (old w) p cs2) {r:Bool} (hF:qb6 n v p=some r):RetV Tryz.prog 144 [GoT.v (Option Tview) cs1,GoT.v Tplace cs2] w r:=by
 obtain ⟨p1,rfl,s1⟩:=qda ha1
 obtain rfl:=qcf ha2
 refine zV 35 Tryz.func144 rfl fun h=>zSR (qO h rfl rfl fun w1 bb1 h=>X0 3 rfl (rD (Y1 2 0 h rfl ?_)))
 refine zd2 rfl (qbf (t:=8) hF rfl ?_ ?_)<;>intro hF
 ·refine Y0 3 rfl ?_
  obtain ⟨y1,hy1,hF⟩:=qe hF
  obtain ⟨b1,o_1,cs3,rfl,-,hr1,hc1⟩:=PtR.get s1 hy1
  obtain ⟨p2,k1,p3,k2,p4,k3,p5,k4,p6,k5,p7,k6,p8,k7,p9,k8,p10,k9,p11,k10,rfl,s2,s3,s4,s5,s6,s7,s8,s9,s10,s11⟩:=qgN hr1
  refine Y0 8 rfl (zdc 0 (hc1.below h.below) rfl (Y0 11 rfl (zdc 1 (hc1.below h.below) rfl (Y1 4 0 h rfl ?_))))
  refine Y0 1 rfl ?_
  obtain ⟨y2,hy2,hF,he1,b2,_,q1,cs4,hp1,hq1,hr2,hc2⟩:=s3.ix hF
  obtain ⟨p12,k11,rfl,s12⟩:=qaB hr2
  refine zdxe hp1 hq1 he1 rfl (Y0 3 rfl (zdc 1 (hc2.below h.below) rfl (Y0 1 rfl ?_)))
  obtain ⟨y3,hy3,hF,he2,b3,_,q2,cs5,hp2,hq2,hr3,hc3⟩:=s2.ix hF
  obtain ⟨p13,k12,p14,k13,p15,k14,rfl,s13,s14,s15⟩:=qS hr3
  refine zdxe hp2 hq2 he2 rfl (Y0 3 rfl (zdc 2 (hc3.below h.below) rfl (Y1 4 0 h rfl ?_)))
  refine Y0 1 rfl ?_
  obtain ⟨y4,hy4,hF,he3,b4,_,q3,cs6,hp3,hq3,hr4,hc4⟩:=s13.ix hF
  obtain rfl:=qdR hr4
  exact zdxe hp3 hq3 he3 rfl (Y0 3 rfl (zdc 3 (hc4.below h.below) rfl (zd2 rfl (dN h fun w2 h=>rb h hF rfl))))
 exact Y0 27 rfl (dN h fun w3 h=>rb h hF rfl)
def qfN (_:Nat) (b:qd) (a_instance:Int):Option qt :=
 (idx b.Aa.Ab a_instance).bind fun y1 =>
 (idx b.Af.Aj y1.Az).bind fun y2 =>
 some y2
theorem qhV {A:Nat→Prop} (hA:∀ b,A b→old w b) {b:qd} {a_instance:Int} (ha1:GoT.R w A b cs1) {r:qt} (hF:qfN n b a_instance=some r):RetG Tryz.prog 145 [GoT.v qd cs1,.int .i64 a_instance] w A r:=by
 obtain ⟨p1,k1,p2,k2,p3,k3,p4,k4,p5,k5,rfl,s1,s2,s3,s4,s5⟩:=qD ha1
 have hg:=Rg.start hA
 refine qf6 Tryz.func145 rfl (m:=17) rfl rfl (fun h=>?_)
 refine zSR (qO h rfl rfl fun w1 bb1 h=>qB qb h rfl rfl rfl fun w2 bb2 h=>zNS (rA [] [1] h rfl fun w3 h=>M2 127 [0,1,2,3,4,5,6] 0 0 (h.pick [1] rfl) rfl ?_))
 obtain ⟨y1,hy1,hF,he1,b1,_,q1,cs2,hp1,hq1,hr1,hc1⟩:=s2.ix hF
 obtain ⟨p6,k6,rfl,s6⟩:=qaB hr1
 refine Ae 7 255 hp1 hq1 he1 (h.pick [1] rfl) rfl (M0 511 [8] (h.pick [1] rfl) rfl (Al 9 1023 1 hc1 (h.pick [1] rfl) rfl ?_))
 obtain ⟨y2,hy2,hF,he2,b2,_,q2,cs3,hp2,hq2,hr2,hc2⟩:=s1.ix hF
 obtain ⟨p7,k7,p8,k8,p9,k9,rfl,s7,s8,s9⟩:=qS hr2
 refine Ae 10 2047 hp2 hq2 he2 (h.pick [1] rfl) rfl (Al 11 4095 0 hc2 (h.pick [1] rfl) rfl (Ao 12 8191 rfl (zs 0 h rfl fun w4 h=>Ag (h.pick [1] rfl) (Ad ?_))))
 obtain rfl:=qc hF
 have hv1:GoRs.Rs (ρ:=qt) h.wc (reg A w h.wc) y2 [GoT.v qt (qy y2 p7 p8 p9 k7 k8 k9)]:=⟨_,rfl,(hg.outR h (qkN y2 (hg.inS h s7) (hg.inS h s8) (hg.inS h s9)))⟩
 exact qha qb (ρ:=qt) (r:=y2) [GoT.v qt (qy y2 p7 p8 p9 k7 k8 k9)] h ⟨⟨_,_,_,rfl,rfl,h.box 0 rfl,rfl⟩,trivial⟩ hv1
def qiv (_:Nat) (a:qav):Option Bool :=
 bif (a.Ar==1) then some true else
 bif (a.Ar==2) then some true else
 some (a.Ar==3)
theorem qlK {a:qav} (ha1:GoT.R w (old w) a cs1) {r:Bool} (hF:qiv n a=some r):RetV Tryz.prog 148 [GoT.v qav cs1] w r:=by
 obtain ⟨p1,k1,p2,k2,rfl,s1,s2⟩:=qaL ha1
 refine zV 16 Tryz.func148 rfl fun h=>zSR (qO h rfl rfl fun w1 bb1 h=>X1 8 0 h rfl (qh (t:=6) hF rfl ?_ ?_))<;>intro hF
 ·exact X0 11 rfl (rb h hF rfl)
 refine X1 8 0 h rfl (qh (t:=11) hF rfl ?_ ?_)<;>intro hF
 ·exact X0 6 rfl (rb h hF rfl)
 exact X1 9 0 h rfl (rb h hF rfl)
def qdJ (n:Nat) (a:qav) (v0:Tplace):Option Bool :=
 (qiv n a).bind fun r1 =>
 bif r1 then some (a.As==v0.pin) else
 some false
theorem qiI {a:qav} {v0:Tplace} (ha1:GoT.R w (old w) a cs1) {p3:Option Addr} (ha2:GoT.R w (old w) (some v0) [.pointer p3]) {r:Bool} (hF:qdJ n a v0=some r):RetV Tryz.prog 147 [GoT.v qav cs1,.pointer p3] w r:=by
 obtain ⟨p1,k1,p2,k2,rfl,s1,s2⟩:=qaL ha1
 obtain ⟨b1,o_1,cs2,rfl,-,hr1,hc1⟩:=PtR.get ha2 rfl
 obtain rfl:=qcf hr1
 refine zV 13 Tryz.func147 rfl fun h=>zSR (qO h rfl rfl fun w1 bb1 h=>X1 5 0 h rfl (zcB h hF (qlK (h.old ha1)) rfl fun r1 w2 h hF=>zp1 rfl (qh (t:=6) hF rfl ?_ ?_)))<;>intro hF
 ·exact X1 7 0 h rfl (zc 1 (hc1.below h.below) rfl (X0 5 rfl (rb h hF rfl)))
 exact X0 8 rfl (rb h hF rfl)
def qH (s:(List qav)) (f_0:Tplace):Nat→Int→Option (Flow Int Int)
 | 0,_=>none
 | n+1,i1 =>
  bif decide (i1<(s.length:Int)) then
   (idx s i1).bind fun y1 =>
   (qdJ n y1 f_0).bind fun r1 =>
   bif r1 then some (.ret i1) else
   qH s f_0 n (W64 (i1+1))
  else
   some (.nxt i1)
def qaS (n:Nat) (s:(List qav)) (f_0:Tplace):Option Int :=
 (qH s f_0 n 0).bind fun o=>match o with
 | .ret r=>some r
 | .nxt _ =>
  some (-1)
theorem qdU {s:(List qav)} {f_0:Tplace} (ha1:GoT.R w (old w) s cs1) {p2:Option Addr} (ha2:GoT.R w (old w) (some f_0) [.pointer p2]) {r:Int} (hF:qaS n s f_0=some r):RetV Tryz.prog 194 [GoT.v (List qav) cs1,.func (.func 147) #[] #[.pointer p2]] w r:=by
 obtain ⟨p1,k1,rfl,s1⟩:=ha1
 obtain ⟨b1,o_1,cs2,rfl,-,hr1,hc1⟩:=PtR.get ha2 rfl
 obtain rfl:=qcf hr1
 refine zV 19 Tryz.func194 rfl fun h=>X0 11 rfl ?_
 obtain ⟨o1,hF,hK1⟩:=qe hF
 refine ql (rL (fun m e w'=>∃ (i1:Int),qH s f_0 m i1=some o1∧e=[(0,.slice p1 s.length k1),(1,.func (.func 147) #[] #[.pointer (some ⟨b1,o_1,none⟩)]),(7,.int .i64 (s.length:Int)),(8,.int .i64 i1)]∧SH w w' []) n ⟨_,hF,rfl,h⟩ rfl ?_)
 rintro m1 e1 w1 ⟨i1,hF,rfl,h⟩
 rcases m1 with _|m1
 ·cases hF
 refine X0 5 rfl (qk rfl hF ?_ ?_)<;>intro hF
 ·refine X0 13 rfl ?_
  obtain ⟨y1,hy1,hF,he1,b2,_,q1,cs3,hp1,hq1,hr2,hc3⟩:=s1.ix hF
  obtain ⟨p3,k2,p4,k3,rfl,s2,s3⟩:=qaL hr2
  refine zxe hp1 hq1 he1 rfl (zc 0 (hc3.below h.below) rfl (zcB h hF (qiI (qiE y1 (h.oldS s2) (h.oldS s3)) (h.old ha2)) rfl fun r1 w2 h hF=>qa5 (qk rfl hF ?_ ?_)))<;>intro hF
  ·refine X0 5 rfl ?_
   obtain rfl:=qc hF;replace hF:=hK1
   exact ri h hF rfl
  exact X0 6 rfl (rK ⟨_,hF,rfl,h⟩ rfl)
 refine qp rfl ?_
 obtain rfl:=qc hF;replace hF:=hK1
 exact X0 4 rfl (ri h hF rfl)
def qai (n:Nat) (s:(List qav)) (f_0:Tplace):Option Bool :=
 (qaS n s f_0).bind fun r1 =>
 some (decide (r1 ≥ 0))
theorem qdp {s:(List qav)} {f_0:Tplace} (ha1:GoT.R w (old w) s cs1) {p2:Option Addr} (ha2:GoT.R w (old w) (some f_0) [.pointer p2]) {r:Bool} (hF:qai n s f_0=some r):RetV Tryz.prog 146 [GoT.v (List qav) cs1,.func (.func 147) #[] #[.pointer p2]] w r:=by
 obtain ⟨p1,k1,rfl,s1⟩:=ha1
 obtain ⟨b1,o_1,cs2,rfl,-,hr1,hc1⟩:=PtR.get ha2 rfl
 obtain rfl:=qcf hr1
 exact zV 9 Tryz.func146 rfl fun h=>X0 8 rfl (zcI h hF (qdU ⟨_,_,rfl,(h.oldS s1)⟩ (h.old ha2)) rfl fun r1 w1 h hF=>X0 3 rfl (rb h hF rfl))
def qas (a_0:(Option Tview)) (y1:Tview) (y2:Tplace):Nat→(List Int)→Int→Option ((List Int) × Int)
 | 0,_,_=>none
 | n+1,x1,i1 =>
  bif decide (i1<(y1.places.length:Int)) then
   (idx y1.places i1).bind fun y3 =>
   bif (y3.net==y2.net) then
    bif (!y3.drives) then
     (qb6 n a_0 y3).bind fun r1 =>
     bif (!r1) then
      (appS x1 ([i1]:List Int)).bind fun x2 =>
      qas a_0 y1 y2 n x2 (W64 (i1+1))
     else
      qas a_0 y1 y2 n x1 (W64 (i1+1))
    else
     qas a_0 y1 y2 n x1 (W64 (i1+1))
   else
    qas a_0 y1 y2 n x1 (W64 (i1+1))
  else
   some (x1,i1)
def qbd (n:Nat) (a_0:(Option Tview)) (a_1:Int):Option (List Int) :=
 (a_0).bind fun y1 =>
 (idx y1.places a_1).bind fun y2 =>
 bif y2.drives then
  (qas a_0 y1 y2 n ([]:List Int) 0).bind fun o=>match o with
  | (x1,_) =>
   some x1
 else
  bif decide (y2.instance_<0) then some [] else
  (qfN n (⟨(⟨y1.Be.Af.Aj⟩:qq),(⟨y1.Be.Aa.Ab,y1.Be.Aa.Ai,y1.Be.Aa.Ac⟩:qg),y1.Be.Ah⟩:qd) y2.instance_).bind fun r2 =>
  (qai n r2.Aq y2).bind fun r3 =>
  bif r3 then
   (qb8 n r2).bind fun r4 =>
   some ([W64 ((W64 (a_1-y2.pin))+r4)]:List Int)
  else
   some []
theorem qdg {a_0:(Option Tview)} {a_1:Int} (ha1:GoT.R w (old w) a_0 cs1) {r:(List Int)} (hF:qbd n a_0 a_1=some r):RetV Tryz.prog 84 [GoT.v (Option Tview) cs1,.int .i64 a_1] w r:=by
 obtain ⟨p1,rfl,s1⟩:=qda ha1
 refine zV 73 Tryz.func84 rfl fun h=>X0 7 rfl ?_
 obtain ⟨y1,hy1,hF⟩:=qe hF
 obtain ⟨b1,o_1,cs2,rfl,-,hr1,hc1⟩:=PtR.get s1 hy1
 obtain ⟨p2,k1,p3,k2,p4,k3,p5,k4,p6,k5,p7,k6,p8,k7,p9,k8,p10,k9,p11,k10,rfl,s2,s3,s4,s5,s6,s7,s8,s9,s10,s11⟩:=qgN hr1
 refine zp2 rfl (zc 5 (hc1.below h.below) rfl (zp1 rfl ?_))
 obtain ⟨y2,hy2,hF,he1,b2,_,q1,cs3,hp1,hq1,hr2,hc2⟩:=s7.ix hF
 obtain rfl:=qcf hr2
 refine zxe hp1 hq1 he1 rfl (zc 0 (hc2.below h.below) rfl (qB qb h rfl rfl rfl fun w1 bb1 h=>zs 0 h rfl fun w2 h=>X1 11 0 h rfl (qk rfl hF ?_ ?_)))<;>intro hF
 ·refine X0 6 rfl (zc 5 (hc1.below h.below) rfl (X0 3 rfl ?_))
  replace h:=h.nil (α:=Int)
  obtain ⟨o1,hF,hK1⟩:=qe hF
  refine ql (rL (fun m e w'=>∃ (S1:Nat→Prop) (p12:Option Addr) (ln1:Nat) (k11:Nat) (x1:(List Int)) (i1:Int),qas a_0 y1 y2 m x1 i1=some o1∧e=[(0,.pointer (some ⟨b1,o_1,none⟩)),(5,.pointer (some ⟨bb1,0,none⟩)),(6,.slice p12 ln1 k11),(22,.slice p7 y1.places.length k6),(23,.int .i64 (y1.places.length:Int)),(24,.int .i64 i1)]∧SH w w' [Ch.own S1 (x1:List Int) [.slice p12 ln1 k11],Ch.box bb1 (qkA y2) 131]) n ⟨_,_,_,_,_,_,hF,rfl,h⟩ rfl ?_)
  rintro m1 e1 w3 ⟨S1,p12,ln1,k11,x1,i1,hF,rfl,h⟩
  obtain rfl:=(h.sl 0 rfl).2
  rcases m1 with _|m1
  ·cases hF
  refine X0 5 rfl (qk rfl hF ?_ ?_)<;>intro hF
  ·refine X0 6 rfl ?_
   obtain ⟨y3,hy3,hF,he2,b3,_,q2,cs4,hp2,hq2,hr3,hc5⟩:=s7.ix hF
   obtain rfl:=qcf hr3
   refine zxe hp2 hq2 he2 rfl (zc 0 (hc5.below h.below) rfl (qB qb h rfl rfl rfl fun w4 bb2 h=>zp1 rfl (zs 0 h rfl fun w5 h=>X2 9 0 2 h rfl (qh (t:=34) hF rfl ?_ ?_))))<;>intro hF
   ·refine X1 8 0 h rfl (qh (t:=39) hF rfl ?_ ?_)<;>intro hF
    ·refine X1 5 0 h rfl (zcB h hF (qe5 (h.old s1) (qgO y3)) rfl fun r1 w6 h hF=>X0 4 rfl (qk rfl hF ?_ ?_))<;>intro hF
     ·refine X0 3 rfl (qm qb [.tmp 46] _ ([i1]:List Int) h rfl rfl rfl rfl rfl rfl rfl rfl rfl ⟨rfl,trivial⟩ rfl fun w7 p13 S2 h=>?_)
      obtain ⟨x2,hx1,hF⟩:=qe hF
      obtain ⟨g1,hx1⟩:=qr hx1
      refine qaf qb 2 h rfl (h.sl 0 rfl).1 (h.sl 0 rfl).2 rfl rfl rfl rfl rfl rfl rfl rfl rfl g1 hx1 rfl fun w8 p14 k12 S3 h=>X0 7 rfl ?_
      replace h:=h.pick [2,3] rfl
      exact rK ⟨_,_,_,_,_,_,hF,rfl,h⟩ rfl
     refine X0 6 rfl ?_
     replace h:=h.pick [1,2] rfl
     exact rK ⟨_,_,_,_,_,_,hF,rfl,h⟩ rfl
    refine X0 6 rfl (qbJ rfl rfl (X0 6 rfl ?_))
    replace h:=h.pick [1,2] rfl
    exact rK ⟨_,_,_,_,_,_,hF,rfl,h⟩ rfl
   refine X0 11 rfl (qbJ rfl rfl (X0 6 rfl ?_))
   replace h:=h.pick [1,2] rfl
   exact rK ⟨_,_,_,_,_,_,hF,rfl,h⟩ rfl
  refine qp rfl ?_
  obtain rfl:=qc hF;replace hF:=hK1
  refine X0 5 rfl ?_
  obtain rfl:=qc hF
  exact rO 0 h rfl ⟨rfl,trivial⟩
 refine X1 8 0 h rfl (qk rfl hF ?_ ?_)<;>intro hF
 ·refine X0 4 rfl ?_
  obtain rfl:=qc hF
  exact qar qb (ρ:=(List Int)) [GoT.v (List Int) [.slice none 0 0]] h ⟨rfl,trivial⟩ (PV.done h (qaD qeO))
 refine zKS (rA [] [0] h rfl fun w9 h=>M0 7 [0,1,2] (h.pick [0] rfl) rfl (Al 3 15 0 hc1 (h.pick [0] rfl) rfl (M1 63 [4,5] 0 (h.pick [0] rfl) rfl ?_)))
 obtain ⟨r2,hr5,hF⟩:=qe hF
 refine qmM (fun e w'=>∃ (bb7:Nat) (p27:Option Addr) (k25:Nat) (p28:Option Addr) (k26:Nat) (p29:Option Addr) (k27:Nat) (S8:Nat→Prop),e=[(1,.int .i64 a_1),(5,.pointer (some ⟨bb1,0,none⟩)),(9,.pointer (some ⟨bb7,0,none⟩))]∧SH w w' [Ch.box bb7 (qy r2 p27 p28 p29 k25 k26 k27) 201,Ch.grp (old w) S8 [fct (r2:qt) [.string r2.Au,.int .i64 r2.Ar,.slice p27 r2.Ap.length k25,.slice p28 r2.Aq.length k26,.slice p29 r2.Ba.length k27,.int .i64 r2.Br,.int .i64 r2.Bk]],Ch.box bb1 (qkA y2) 131]) 0 (bits 9 511) ?_ ?_
 ·intro K
  refine At 6 7 127 191 rfl ?_ ?_
  ·have hg3:Rg (old w) w (old w) w:=.start (fun _ h=>h)
   refine qhI r2 hg3 h (cB 145 rfl) (qhV (hg3.atB h) (qnt _ (hg3.inBS h s2) (hg3.inBS h s3) (hg3.inBS h s4) (hg3.inBS h s5) (hg3.inBS h s6)) hr5) rfl rfl rfl rfl fun w17 us3 S7 h hv3=>?_
   obtain ⟨cs7,rfl,hr10⟩:=qgt hv3
   have hr11:=hr10
   obtain ⟨p24,k22,p25,k23,p26,k24,rfl,s18,s19,s20⟩:=qS hr10
   replace h:=h.grpAdd 0 rfl hr11
   exact Ag (h.pick [1] rfl) (Ao 7 255 rfl (qB qb h rfl rfl rfl fun w18 bb6 h=>Ag (h.pick [2] rfl) (Ao 8 511 rfl (zs 0 h rfl fun w19 h=>Ag (h.pick [2] rfl) (qmm [(1,_),(5,_),(9,_)] ⟨rfl,rfl,rfl,trivial⟩ (K _ _ ⟨_,_,_,_,_,_,_,_,rfl,h⟩))))))
  refine qB qb h rfl rfl rfl fun w17 bb6 h=>Ag (h.pick [1] rfl) (Ao 6 255 rfl ?_)
  have hg3:Rg (old w) w (old w) w:=.start (fun _ h=>h)
  refine qhI r2 hg3 h (cB 145 rfl) (qhV (hg3.atB h) (qnt _ (hg3.inBS h s2) (hg3.inBS h s3) (hg3.inBS h s4) (hg3.inBS h s5) (hg3.inBS h s6)) hr5) rfl rfl rfl rfl fun w18 us3 S7 h hv3=>?_
  obtain ⟨cs7,rfl,hr10⟩:=qgt hv3
  have hr11:=hr10
  obtain ⟨p24,k22,p25,k23,p26,k24,rfl,s18,s19,s20⟩:=qS hr10
  replace h:=h.grpAdd 0 rfl hr11
  refine Ag (h.pick [2] rfl) (Ao 8 511 rfl (zs 1 h rfl fun w19 h=>Ag (h.pick [2] rfl) ?_))
  replace h:=h.pick [1,0,2] rfl
  exact qmm [(1,_),(5,_),(9,_)] ⟨rfl,rfl,rfl,trivial⟩ (K _ _ ⟨_,_,_,_,_,_,_,_,rfl,h⟩)
 rintro e3 w20 ⟨bb7,p27,k25,p28,k26,p29,k27,S8,rfl,h⟩
 refine Ad (X1 6 0 h rfl (zcB h hF (qdp ⟨_,_,rfl,(qht (h.grp 1 0 rfl rfl)).2.1.1⟩ (qhM (x:=y2) 2 h rfl (qgO y2))) rfl fun r3 w21 h hF=>qa5 (qk rfl hF ?_ ?_)))<;>intro hF
 ·refine qf1 (rA [] [0,2] h rfl fun w22 h=>M2 31 [0,1,2,3,4] 1 0 (h.pick [0,2] rfl) rfl (Ao 5 63 rfl (zcI h hF (qeV (h.grp 1 0 rfl rfl)) rfl fun r4 w23 h hF=>G0 127 [6] (h.pick [0,2] rfl) rfl (Ao 7 255 rfl (qm qb [.tmp 71] _ ([W64 ((W64 (a_1-y2.pin))+r4)]:List Int) h rfl rfl rfl rfl rfl rfl rfl rfl rfl ⟨rfl,trivial⟩ rfl fun w24 p30 S9 h=>G0 511 [8] (h.pick [1,3] rfl) rfl (Ad ?_))))))
  replace h:=h.pick [0,1,3] rfl
  obtain rfl:=qc hF
  exact rO 0 h rfl ⟨rfl,trivial⟩
 refine X0 5 rfl ?_
 replace h:=h.pick [0,2] rfl
 obtain rfl:=qc hF
 exact qar qb (ρ:=(List Int)) [GoT.v (List Int) [.slice none 0 0]] h ⟨rfl,trivial⟩ (PV.done h (qaD qeO))
end Go.Fw


namespace Go.Fw
open Go Go.Proofs
open Go.RowKit (Below)
set_option maxRecDepth 100000
set_option maxHeartbeats 6400000
variable {n:Nat} {w:World} {cs1 cs2 cs3 cs4 cs5 cs6 cs7 cs8 cs9:List Value}
def qab (n:Nat) (b:qd):Option Int :=
 (qc4 n (⟨b.Aa.Ab,b.Aa.Ai,b.Aa.Ac⟩:qg)).bind fun r1 =>
 some (r1.length:Int)
theorem qaK {b:qd} (ha1:GoT.R w (old w) b cs1) {r:Int} (hF:qab n b=some r):RetV Tryz.prog 70 [GoT.v qd cs1] w r:=by
 obtain ⟨p1,k1,p2,k2,p3,k3,p4,k4,p5,k5,rfl,s1,s2,s3,s4,s5⟩:=qD ha1
 exact zV 7 Tryz.func70 rfl fun h=>zSR (qO h rfl rfl fun w1 bb1 h=>X1 6 0 h rfl (zcL h hF (qeJ (qa2 _ (h.oldS s2) (h.oldS s3) (h.oldS s4))) rfl fun r1 w2 S1 p6 k6 h hF=>X0 3 rfl (ri h hF rfl)))
def qbQ (b:qd):Nat→(List Int)→Int→Option ((List Int) × Int)
 | 0,_,_=>none
 | n+1,x1,i1 =>
  (qab n b).bind fun r1 =>
  bif decide (i1<r1) then
   (qgK n (⟨b.Af.Aj⟩:qq) (⟨b.Aa.Ab,b.Aa.Ai,b.Aa.Ac⟩:qg) i1).bind fun o=>match o with
    | (r3,_) =>
     (
      bif decide (r3.instance_<0) then
       (idx b.Aa.Ac r3.pin).bind fun y1 =>
       bif (y1.Bl==1) then some true else
       (qfC n b i1).bind fun r5 =>
       some r5
      else
       (qfC n b i1).bind fun r6 =>
       some r6).bind fun b1 =>
     bif b1 then
      (appS x1 ([i1]:List Int)).bind fun x2 =>
      qbQ b n x2 (W64 (i1+1))
     else
      qbQ b n x1 (W64 (i1+1))
  else
   some (x1,i1)
def qe3 (n:Nat) (b:qd):Option (List Int) :=
 (qbQ b n ([]:List Int) 0).bind fun o=>match o with
 | (x1,_) =>
  some x1
theorem qhh {b:qd} (ha1:GoT.R w (old w) b cs1) {r:(List Int)} (hF:qe3 n b=some r):RetV Tryz.prog 42 [GoT.v qd cs1] w r:=by
 obtain ⟨p1,k1,p2,k2,p3,k3,p4,k4,p5,k5,rfl,s1,s2,s3,s4,s5⟩:=qD ha1
 refine zV 47 Tryz.func42 rfl fun h=>zSR (qO h rfl rfl fun w1 bb1 h=>X0 4 rfl (qm qb [] _ ([]:List Int) h rfl rfl rfl rfl rfl rfl rfl rfl rfl trivial rfl fun w2 p6 S1 h=>X0 7 rfl ?_))
 obtain ⟨o1,hF,hK1⟩:=qe hF
 refine ql (rL (fun m e w'=>∃ (S2:Nat→Prop) (p7:Option Addr) (ln1:Nat) (k6:Nat) (x1:(List Int)) (i1:Int),qbQ b m x1 i1=some o1∧e=[(1,.pointer (some ⟨bb1,0,none⟩)),(3,.slice p7 ln1 k6),(4,.int .i64 i1)]∧SH w w' [Ch.own S2 (x1:List Int) [.slice p7 ln1 k6],Ch.box bb1 (qA b p1 p2 p3 p4 p5 k1 k2 k3 k4 k5) 34]) n ⟨_,_,_,_,_,_,hF,rfl,h⟩ rfl ?_)
 rintro m1 e1 w3 ⟨S2,p7,ln1,k6,x1,i1,hF,rfl,h⟩
 obtain rfl:=(h.sl 0 rfl).2
 rcases m1 with _|m1
 ·cases hF
 refine X1 5 1 h rfl (zcI h hF (qaK (h.old ha1)) rfl fun r1 w4 h hF=>X0 2 rfl (qk rfl hF ?_ ?_))<;>intro hF
 ·refine X2 10 1 1 h rfl ?_
  obtain ⟨r2,hr2,hF⟩:=qe hF
  obtain ⟨r3,r4⟩:=r2
  refine qbZ (r3,r4) h (cB 98 rfl) (qhC (qeH _ (h.oldS s1)) (qa2 _ (h.oldS s2) (h.oldS s3) (h.oldS s4)) hr2) rfl rfl rfl rfl fun w5 S3 us1 hv1 hr3=>?_
  obtain ⟨S4,S5,cs2,us2,rfl,hv2,hr4⟩:=hv1.cons hr3
  obtain rfl:=qbH (hv2.sh.own 0 rfl)
  obtain ⟨rfl,h⟩:=hv2.lastB hr4
  refine zp3 rfl (qB qb h rfl rfl rfl fun w6 bb2 h=>zs 0 h rfl fun w7 h=>X0 3 rfl ?_)
  obtain ⟨KF1,hKF1,o2,hF,hK2⟩:=bindE hF
  refine qa8 (fun e w'=>∃ (b1:Bool),KF1 b1=some o1∧e=[(1,.pointer (some ⟨bb1,0,none⟩)),(3,.slice p7 x1.length k6),(4,.int .i64 i1),(41,.bool b1)]∧SH w w' [Ch.own S2 (x1:List Int) [.slice p7 x1.length k6],Ch.box bb1 (qA b p1 p2 p3 p4 p5 k1 k2 k3 k4 k5) 34]) ?_ ?_
  ·refine X1 5 0 h rfl (qh (t:=26) hF rfl ?_ ?_)<;>intro hF
   ·refine X2 11 3 0 h rfl ?_
    obtain ⟨y1,hy1,hF,he1,b2,_,q1,cs3,hp1,hq1,hr6,hc3⟩:=s4.ix hF
    obtain rfl:=qdw hr6
    refine zxe hp1 hq1 he1 rfl (X0 3 rfl (zc 1 (hc3.below h.below) rfl (X0 4 rfl (qh (t:=37) hF rfl ?_ ?_))))<;>intro hF
    ·refine X0 5 rfl ?_
     replace h:=h.pick [2,3] rfl
     obtain rfl:=qc hF
     exact rG ⟨_,hK2,rfl,h⟩ rfl
    refine X1 5 3 h rfl (zcB h hF (qhn (h.old ha1)) rfl fun r5 w10 h hF=>X0 2 rfl ?_)
    replace h:=h.pick [2,3] rfl
    obtain rfl:=qc hF
    exact rG ⟨_,hK2,rfl,h⟩ rfl
   refine X1 16 3 h rfl (zcB h hF (qhn (h.old ha1)) rfl fun r6 w11 h hF=>X0 2 rfl ?_)
   replace h:=h.pick [2,3] rfl
   obtain rfl:=qc hF
   exact rG ⟨_,hK2,rfl,h⟩ rfl
  rintro e2 w12 ⟨b1,hF,rfl,h⟩
  subst hKF1
  refine qk rfl hF ?_ ?_<;>intro hF
  ·refine X0 3 rfl (qm qb [.tmp 43] _ ([i1]:List Int) h rfl rfl rfl rfl rfl rfl rfl rfl rfl ⟨rfl,trivial⟩ rfl fun w8 p8 S7 h=>?_)
   obtain ⟨x2,hx1,hF⟩:=qe hF
   obtain ⟨g1,hx1⟩:=qr hx1
   refine qaf qb 1 h rfl (h.sl 0 rfl).1 (h.sl 0 rfl).2 rfl rfl rfl rfl rfl rfl rfl rfl rfl g1 hx1 rfl fun w9 p9 k7 S8 h=>X0 8 rfl ?_
   replace h:=h.pick [1,2] rfl
   exact rK ⟨_,_,_,_,_,_,hF,rfl,h⟩ rfl
  exact X0 7 rfl (rK ⟨_,_,_,_,_,_,hF,rfl,h⟩ rfl)
 refine qp rfl ?_
 obtain rfl:=qc hF;replace hF:=hK1
 refine X0 5 rfl ?_
 obtain rfl:=qc hF
 exact rO 0 h rfl ⟨rfl,trivial⟩
def qgm (n:Nat) (b:qd):Option ((List Int) × Int) :=
 (qeu n b).bind fun r1 =>
 bif (!r1) then some ([],1) else
 (qe3 n b).bind fun r2 =>
 some (r2,0)
theorem qk2 {b:qd} (ha1:GoT.R w (old w) b cs1) {r:((List Int) × Int)} (hF:qgm n b=some r):RetV Tryz.prog 12 [GoT.v qd cs1] w r:=by
 obtain ⟨p1,k1,p2,k2,p3,k3,p4,k4,p5,k5,rfl,s1,s2,s3,s4,s5⟩:=qD ha1
 refine zV 9 Tryz.func12 rfl fun h=>zSR (qO h rfl rfl fun w1 bb1 h=>X1 7 0 h rfl (zcB h hF (qfy (h.old ha1)) rfl fun r1 w2 h hF=>X0 2 rfl (qk rfl hF ?_ ?_)))<;>intro hF
 ·refine X0 5 rfl ?_
  obtain rfl:=qc hF
  exact qar qb (ρ:=((List Int) × Int)) [GoT.v (List Int) [.slice none 0 0],GoT.v Int [.int .i64 1]] h ⟨rfl,rfl,trivial⟩ (PV.done h (qaC h qeO (qaD (qu (S:=fun _=>False) rfl)) (by rfl)))
 refine X1 4 0 h rfl (zcL h hF (qhh (h.old ha1)) rfl fun r2 w3 S1 p6 k6 h hF=>X0 3 rfl ?_)
 obtain rfl:=qc hF
 exact qar qb (ρ:=((List Int) × Int)) [GoT.v (List Int) [.slice p6 r2.length k6],GoT.v Int [.int .i64 0]] h ⟨rfl,rfl,trivial⟩ (PV.done h (qaC h (qC 0 h rfl) (qaD (qu (S:=fun _=>False) rfl)) (by rfl)))
def qe1 (list:(List Int)) (x:Int):Nat→Int→Option (Flow Int Int)
 | 0,_=>none
 | n+1,i1 =>
  bif decide (i1<(list.length:Int)) then
   (idx list i1).bind fun y1 =>
   bif (y1==x) then some (.ret i1) else
   qe1 list x n (W64 (i1+1))
  else
   some (.nxt i1)
def qhN (n:Nat) (list:(List Int)) (x:Int):Option Int :=
 (qe1 list x n 0).bind fun o=>match o with
 | .ret r=>some r
 | .nxt _ =>
  some (-1)
theorem qj8 {list:(List Int)} {x:Int} (ha1:GoT.R w (old w) list cs1) {r:Int} (hF:qhN n list x=some r):RetV Tryz.prog 89 [GoT.v (List Int) cs1,.int .i64 x] w r:=by
 obtain ⟨p1,k1,rfl,s1⟩:=ha1
 refine zV 19 Tryz.func89 rfl fun h=>X0 9 rfl ?_
 obtain ⟨o1,hF,hK1⟩:=qe hF
 refine ql (rL (fun m e w'=>∃ (i1:Int),qe1 list x m i1=some o1∧e=[(0,.slice p1 list.length k1),(1,.int .i64 x),(5,.int .i64 i1)]∧SH w w' []) n ⟨_,hF,rfl,h⟩ rfl ?_)
 rintro m1 e1 w1 ⟨i1,hF,rfl,h⟩
 rcases m1 with _|m1
 ·cases hF
 refine X0 8 rfl (qk rfl hF ?_ ?_)<;>intro hF
 ·refine X0 7 rfl ?_
  obtain ⟨y1,hy1,hF,he1,b1,_,q1,cs2,hp1,hq1,rfl,hc2⟩:=s1.ix hF
  refine zxe hp1 hq1 he1 rfl (zc 0 (hc2.below h.below) rfl (X0 3 rfl (qk rfl hF ?_ ?_)))<;>intro hF
  ·refine X0 5 rfl ?_
   obtain rfl:=qc hF;replace hF:=hK1
   exact ri h hF rfl
  exact X0 7 rfl (rK ⟨_,hF,rfl,h⟩ rfl)
 refine qp rfl ?_
 obtain rfl:=qc hF;replace hF:=hK1
 exact X0 4 rfl (ri h hF rfl)
def qbI (b:qd) (path:(List Int)):Nat→Int→Option (Flow Bool Int)
 | 0,_=>none
 | n+1,i1 =>
  bif decide (i1<(path.length:Int)) then
   (idx path i1).bind fun y1 =>
   (qab n b).bind fun r1 =>
   (qao n y1 0 (W64 (r1-1))).bind fun r2 =>
   bif (!r2) then some (.ret false) else
   bif decide (i1 > 0) then
    (idx path (W64 (i1-1))).bind fun y2 =>
    (idx path i1).bind fun y3 =>
    (qdN n b y2).bind fun r3 =>
    (qhN n r3 y3).bind fun r4 =>
    bif decide (r4<0) then some (.ret false) else
    qbI b path n (W64 (i1+1))
   else
    qbI b path n (W64 (i1+1))
  else
   some (.nxt i1)
def qgG (n:Nat) (b:qd) (path:(List Int)):Option Bool :=
 (
  (qeu n b).bind fun r5 =>
  bif (!r5) then some true else
  bif decide ((path.length:Int)<1) then some true else
  some (decide ((path.length:Int) > 60))).bind fun b1 =>
 bif b1 then some false else
 (qbI b path n 0).bind fun o=>match o with
 | .ret r=>some r
 | .nxt _ =>
  some true
theorem qle {b:qd} {path:(List Int)} (ha1:GoT.R w (old w) b cs1) (ha2:GoT.R w (old w) path cs2) {r:Bool} (hF:qgG n b path=some r):RetV Tryz.prog 35 [GoT.v qd cs1,GoT.v (List Int) cs2] w r:=by
 obtain ⟨p1,k1,p2,k2,p3,k3,p4,k4,p5,k5,rfl,s1,s2,s3,s4,s5⟩:=qD ha1
 obtain ⟨p6,k6,rfl,s6⟩:=ha2
 refine zV 53 Tryz.func35 rfl fun h=>zSR (qO h rfl rfl fun w1 bb1 h=>X0 4 rfl ?_)
 obtain ⟨KF1,hKF1,o2,hF,hK2⟩:=bindE hF
 refine qa8 (fun e w'=>∃ (b1:Bool),KF1 b1=some r∧e=[(1,.slice p6 path.length k6),(2,.pointer (some ⟨bb1,0,none⟩)),(18,.bool b1)]∧SH w w' [Ch.box bb1 (qA b p1 p2 p3 p4 p5 k1 k2 k3 k4 k5) 34]) ?_ ?_
 ·refine X1 2 0 h rfl (zcB h hF (qfy (h.old ha1)) rfl fun r5 w8 h hF=>zp2 rfl (qh (t:=9) hF rfl ?_ ?_))<;>intro hF
  ·refine X0 10 rfl ?_
   obtain rfl:=qc hF
   exact rG ⟨_,hK2,rfl,h⟩ rfl
  refine X0 8 rfl (qh (t:=14) hF rfl ?_ ?_)<;>intro hF
  ·refine X0 5 rfl ?_
   obtain rfl:=qc hF
   exact rG ⟨_,hK2,rfl,h⟩ rfl
  refine X0 8 rfl ?_
  obtain rfl:=qc hF
  exact rG ⟨_,hK2,rfl,h⟩ rfl
 rintro e2 w9 ⟨b1,hF,rfl,h⟩
 subst hKF1
 refine qk rfl hF ?_ ?_<;>intro hF
 ·exact X0 4 rfl (rb h hF rfl)
 refine X0 6 rfl ?_
 obtain ⟨o1,hF,hK1⟩:=qe hF
 refine ql (rL (fun m e w'=>∃ (i1:Int),qbI b path m i1=some o1∧e=[(1,.slice p6 path.length k6),(2,.pointer (some ⟨bb1,0,none⟩)),(5,.int .i64 i1)]∧SH w w' [Ch.box bb1 (qA b p1 p2 p3 p4 p5 k1 k2 k3 k4 k5) 34]) n ⟨_,hF,rfl,h⟩ rfl ?_)
 rintro m1 e1 w2 ⟨i1,hF,rfl,h⟩
 rcases m1 with _|m1
 ·cases hF
 refine X0 8 rfl (qk rfl hF ?_ ?_)<;>intro hF
 ·refine X0 4 rfl (rA [] [0] h rfl fun w3 h=>M0 3 [0,1] (h.pick [0] rfl) rfl ?_)
  obtain ⟨y1,hy1,hF,he1,b2,_,q1,cs3,hp1,hq1,rfl,hc3⟩:=s6.ix hF
  refine Ae 2 7 hp1 hq1 he1 (h.pick [0] rfl) rfl (Al 3 15 0 hc3 (h.pick [0] rfl) rfl (M1 31 [4] 0 (h.pick [0] rfl) rfl (Ao 5 63 rfl (zcI h hF (qaK (h.old ha1)) rfl fun r1 w4 h hF=>G0 127 [6] (h.pick [0] rfl) rfl (Ao 7 255 rfl (zcB h hF qU rfl fun r2 w5 h hF=>G0 1023 [8,9] (h.pick [0] rfl) rfl (qoD (t:=34) hF rfl ?_ ?_)))))))<;>intro hF
  ·refine qci 10 rfl (by kernel_rfl) rfl (bits 28 2047) (by kernel_rfl) (by kernel_rfl) (h.pick [0] rfl) rfl (qci 11 rfl (by kernel_rfl) rfl (bits 28 4095) (by kernel_rfl) (by kernel_rfl) (h.pick [0] rfl) rfl (qci 12 rfl (by kernel_rfl) rfl (bits 28 8191) (by kernel_rfl) (by kernel_rfl) (h.pick [0] rfl) rfl (qci 13 rfl (by kernel_rfl) rfl (bits 28 16383) (by kernel_rfl) (by kernel_rfl) (h.pick [0] rfl) rfl (qci 14 rfl (by kernel_rfl) rfl (bits 28 32767) (by kernel_rfl) (by kernel_rfl) (h.pick [0] rfl) rfl (qci 15 rfl (by kernel_rfl) rfl (bits 28 65535) (by kernel_rfl) (by kernel_rfl) (h.pick [0] rfl) rfl (qci 16 rfl (by kernel_rfl) rfl (bits 28 131071) (by kernel_rfl) (by kernel_rfl) (h.pick [0] rfl) rfl (qci 17 rfl (by kernel_rfl) rfl (bits 28 262143) (by kernel_rfl) (by kernel_rfl) (h.pick [0] rfl) rfl (qci 18 rfl (by kernel_rfl) rfl (bits 28 524287) (by kernel_rfl) (by kernel_rfl) (h.pick [0] rfl) rfl (qci 19 rfl (by kernel_rfl) rfl (bits 28 1048575) (by kernel_rfl) (by kernel_rfl) (h.pick [0] rfl) rfl (qci 20 rfl (by kernel_rfl) rfl (bits 28 2097151) (by kernel_rfl) (by kernel_rfl) (h.pick [0] rfl) rfl (qci 21 rfl (by kernel_rfl) rfl (bits 28 4194303) (by kernel_rfl) (by kernel_rfl) (h.pick [0] rfl) rfl (qci 22 rfl (by kernel_rfl) rfl (bits 28 8388607) (by kernel_rfl) (by kernel_rfl) (h.pick [0] rfl) rfl (qci 23 rfl (by kernel_rfl) rfl (bits 28 16777215) (by kernel_rfl) (by kernel_rfl) (h.pick [0] rfl) rfl (qci 24 rfl (by kernel_rfl) rfl (bits 28 33554431) (by kernel_rfl) (by kernel_rfl) (h.pick [0] rfl) rfl (qci 25 rfl (by kernel_rfl) rfl (bits 28 67108863) (by kernel_rfl) (by kernel_rfl) (h.pick [0] rfl) rfl (qci 26 rfl (by kernel_rfl) rfl (bits 28 134217727) (by kernel_rfl) (by kernel_rfl) (h.pick [0] rfl) rfl (M0 268435455 [27] (h.pick [0] rfl) rfl (Ad (qdF rfl rfl (X0 4 rfl ?_))))))))))))))))))))
   obtain rfl:=qc hF;replace hF:=hK1
   exact rb h hF rfl
  refine qch 10 rfl (by kernel_rfl) (bits 28 2047) (by kernel_rfl) (by kernel_rfl) (fun w' hw=>v_p qb rfl w') (h.pick [0] rfl) rfl (qch 11 rfl (by kernel_rfl) (bits 28 4095) (by kernel_rfl) (by kernel_rfl) (fun w' hw=>v_p qb rfl w') (h.pick [0] rfl) rfl (qch 12 rfl (by kernel_rfl) (bits 28 8191) (by kernel_rfl) (by kernel_rfl) (fun w' hw=>v_p qb rfl w') (h.pick [0] rfl) rfl (qoD (t:=37) hF rfl ?_ ?_)))<;>intro hF
  ·refine qch 13 rfl (by kernel_rfl) (bits 28 16383) (by kernel_rfl) (by kernel_rfl) (fun w' hw=>qfk qb (hw.box 0 rfl) (j:=0) rfl rfl rfl) (h.pick [0] rfl) rfl (qch 14 rfl (by kernel_rfl) (bits 28 32767) (by kernel_rfl) (by kernel_rfl) (fun w' hw=>v_p qb rfl w') (h.pick [0] rfl) rfl (qch 15 rfl (by kernel_rfl) (bits 28 65535) (by kernel_rfl) (by kernel_rfl) (fun w' hw=>v_p qb rfl w') (h.pick [0] rfl) rfl (qch 16 rfl (by kernel_rfl) (bits 28 131071) (by kernel_rfl) (by kernel_rfl) (fun w' hw=>v_p qb rfl w') (h.pick [0] rfl) rfl ?_)))
   obtain ⟨y2,hy2,hF,he2,b3,_,q2,cs4,hp2,hq2,rfl,hc4⟩:=s6.ix hF
   refine qch 17 rfl (by kernel_rfl) (bits 28 262143) (by kernel_rfl) (by kernel_rfl) (fun w' hw=>qlx qb hp2 hq2 ⟨he2.1,he2.2.1⟩ rfl rfl rfl rfl rfl rfl) (h.pick [0] rfl) rfl (qch 18 rfl (by kernel_rfl) (bits 28 524287) (by kernel_rfl) (by kernel_rfl) (fun w' hw=>qfk qb (hc4.below hw.below) (j:=0) rfl rfl rfl) (h.pick [0] rfl) rfl (qch 20 rfl (by kernel_rfl) (bits 28 1572863) (by kernel_rfl) (by kernel_rfl) (fun w' hw=>v_p qb rfl w') (h.pick [0] rfl) rfl (qch 21 rfl (by kernel_rfl) (bits 28 3670015) (by kernel_rfl) (by kernel_rfl) (fun w' hw=>v_p qb rfl w') (h.pick [0] rfl) rfl ?_)))
   obtain ⟨y3,hy3,hF,he3,b4,_,q3,cs5,hp3,hq3,rfl,hc5⟩:=s6.ix hF
   refine qch 22 rfl (by kernel_rfl) (bits 28 7864319) (by kernel_rfl) (by kernel_rfl) (fun w' hw=>qlx qb hp3 hq3 ⟨he3.1,he3.2.1⟩ rfl rfl rfl rfl rfl rfl) (h.pick [0] rfl) rfl (qch 23 rfl (by kernel_rfl) (bits 28 16252927) (by kernel_rfl) (by kernel_rfl) (fun w' hw=>qfk qb (hc5.below hw.below) (j:=0) rfl rfl rfl) (h.pick [0] rfl) rfl (Ao 19 16777215 rfl (X0 1 rfl (zcL h hF (qe0 (h.old ha1)) rfl fun r3 w6 S1 p7 k7 h hF=>Ag (h.pick [1] rfl) (Ao 24 33554431 rfl (X0 1 rfl (zcI h hF (qj8 (h.own 0 rfl)) rfl fun r4 w7 h hF=>Ag (h.pick [1] rfl) (qch 25 rfl (by kernel_rfl) (bits 28 67108863) (by kernel_rfl) (by kernel_rfl) (fun w' hw=>v_p qb rfl w') (h.pick [1] rfl) rfl (qch 26 rfl (by kernel_rfl) (bits 28 134217727) (by kernel_rfl) (by kernel_rfl) (fun w' hw=>v_p qb rfl w') (h.pick [1] rfl) rfl (M0 268435455 [27] (h.pick [1] rfl) rfl (Ad (qk rfl hF ?_ ?_))))))))))))<;>intro hF
   ·refine X0 4 rfl ?_
    obtain rfl:=qc hF;replace hF:=hK1
    exact rb h hF rfl
   refine X0 7 rfl ?_
   replace h:=h.pick [1] rfl
   exact rK ⟨_,hF,rfl,h⟩ rfl
  exact qci 13 rfl (by kernel_rfl) rfl (bits 28 16383) (by kernel_rfl) (by kernel_rfl) (h.pick [0] rfl) rfl (qci 14 rfl (by kernel_rfl) rfl (bits 28 32767) (by kernel_rfl) (by kernel_rfl) (h.pick [0] rfl) rfl (qci 15 rfl (by kernel_rfl) rfl (bits 28 65535) (by kernel_rfl) (by kernel_rfl) (h.pick [0] rfl) rfl (qci 16 rfl (by kernel_rfl) rfl (bits 28 131071) (by kernel_rfl) (by kernel_rfl) (h.pick [0] rfl) rfl (qci 17 rfl (by kernel_rfl) rfl (bits 28 262143) (by kernel_rfl) (by kernel_rfl) (h.pick [0] rfl) rfl (qci 18 rfl (by kernel_rfl) rfl (bits 28 524287) (by kernel_rfl) (by kernel_rfl) (h.pick [0] rfl) rfl (qci 19 rfl (by kernel_rfl) rfl (bits 28 1048575) (by kernel_rfl) (by kernel_rfl) (h.pick [0] rfl) rfl (qci 20 rfl (by kernel_rfl) rfl (bits 28 2097151) (by kernel_rfl) (by kernel_rfl) (h.pick [0] rfl) rfl (qci 21 rfl (by kernel_rfl) rfl (bits 28 4194303) (by kernel_rfl) (by kernel_rfl) (h.pick [0] rfl) rfl (qci 22 rfl (by kernel_rfl) rfl (bits 28 8388607) (by kernel_rfl) (by kernel_rfl) (h.pick [0] rfl) rfl (qci 23 rfl (by kernel_rfl) rfl (bits 28 16777215) (by kernel_rfl) (by kernel_rfl) (h.pick [0] rfl) rfl (qci 24 rfl (by kernel_rfl) rfl (bits 28 33554431) (by kernel_rfl) (by kernel_rfl) (h.pick [0] rfl) rfl (qci 25 rfl (by kernel_rfl) rfl (bits 28 67108863) (by kernel_rfl) (by kernel_rfl) (h.pick [0] rfl) rfl (qch 26 rfl (by kernel_rfl) (bits 28 134217727) (by kernel_rfl) (by kernel_rfl) (fun w' hw=>v_p qb rfl w') (h.pick [0] rfl) rfl (M0 268435455 [27] (h.pick [0] rfl) rfl (Ad (qbJ rfl rfl (X0 7 rfl (rK ⟨_,hF,rfl,h⟩ rfl))))))))))))))))))
 refine qp rfl ?_
 obtain rfl:=qc hF;replace hF:=hK1
 exact X0 4 rfl (rb h hF rfl)
def qaI (_:Nat) (list:(List Tplace)):Option Int :=
 some (list.length:Int)
theorem qef {list:(List Tplace)} (ha1:GoT.R w (old w) list cs1) {r:Int} (hF:qaI n list=some r):RetV Tryz.prog 82 [GoT.v (List Tplace) cs1] w r:=by
 obtain ⟨p1,k1,rfl,s1⟩:=ha1
 exact zV 5 Tryz.func82 rfl fun h=>X0 10 rfl (ri h hF rfl)
def qbX (s:(List Int)) (v:Int):Nat→Int→Option (Flow Int Int)
 | 0,_=>none
 | n+1,i1 =>
  bif decide (i1<(s.length:Int)) then
   (idx s i1).bind fun y1 =>
   bif (v==y1) then some (.ret i1) else
   qbX s v n (W64 (i1+1))
  else
   some (.nxt i1)
def qgQ (n:Nat) (s:(List Int)) (v:Int):Option Int :=
 (qbX s v n 0).bind fun o=>match o with
 | .ret r=>some r
 | .nxt _ =>
  some (-1)
theorem qj2 {s:(List Int)} {v:Int} (ha1:GoT.R w (old w) s cs1) {r:Int} (hF:qgQ n s v=some r):RetV Tryz.prog 143 [GoT.v (List Int) cs1,.int .i64 v] w r:=by
 obtain ⟨p1,k1,rfl,s1⟩:=ha1
 refine zV 19 Tryz.func143 rfl fun h=>X0 11 rfl ?_
 obtain ⟨o1,hF,hK1⟩:=qe hF
 refine ql (rL (fun m e w'=>∃ (i1:Int),qbX s v m i1=some o1∧e=[(0,.slice p1 s.length k1),(1,.int .i64 v),(7,.int .i64 (s.length:Int)),(8,.int .i64 i1)]∧SH w w' []) n ⟨_,hF,rfl,h⟩ rfl ?_)
 rintro m1 e1 w1 ⟨i1,hF,rfl,h⟩
 rcases m1 with _|m1
 ·cases hF
 refine X0 5 rfl (qk rfl hF ?_ ?_)<;>intro hF
 ·refine X0 13 rfl ?_
  obtain ⟨y1,hy1,hF,he1,b1,_,q1,cs2,hp1,hq1,rfl,hc2⟩:=s1.ix hF
  refine zxe hp1 hq1 he1 rfl (zc 0 (hc2.below h.below) rfl (X0 2 rfl (qk rfl hF ?_ ?_)))<;>intro hF
  ·refine X0 5 rfl ?_
   obtain rfl:=qc hF;replace hF:=hK1
   exact ri h hF rfl
  exact X0 6 rfl (rK ⟨_,hF,rfl,h⟩ rfl)
 refine qp rfl ?_
 obtain rfl:=qc hF;replace hF:=hK1
 exact X0 4 rfl (ri h hF rfl)
def qbW (n:Nat) (s:(List Int)) (v:Int):Option Bool :=
 (qgQ n s v).bind fun r1 =>
 some (decide (r1 ≥ 0))
theorem qeS {s:(List Int)} {v:Int} (ha1:GoT.R w (old w) s cs1) {r:Bool} (hF:qbW n s v=some r):RetV Tryz.prog 83 [GoT.v (List Int) cs1,.int .i64 v] w r:=by
 obtain ⟨p1,k1,rfl,s1⟩:=ha1
 exact zV 9 Tryz.func83 rfl fun h=>X0 8 rfl (zcI h hF (qj2 ⟨_,_,rfl,(h.oldS s1)⟩) rfl fun r1 w1 h hF=>X0 3 rfl (rb h hF rfl))
def qbA (v:(Option Tview)) (path:(List Int)):Nat→Int→Option (Flow Bool Int)
 | 0,_=>none
 | n+1,i1 =>
  bif decide (i1<(path.length:Int)) then
   (idx path (W64 (i1-1))).bind fun y1 =>
   (idx path i1).bind fun y2 =>
   (qbd n v y1).bind fun r1 =>
   (qbW n r1 y2).bind fun r2 =>
   bif (!r2) then some (.ret false) else
   qbA v path n (W64 (i1+1))
  else
   some (.nxt i1)
def qc2 (n:Nat) (v:(Option Tview)) (path:(List Int)):Option Bool :=
 (
  (qV n path).bind fun r3 =>
  (qaA n r3 1 60).bind fun r4 =>
  bif (!r4) then some true else
  (v).bind fun y3 =>
  (qaI n y3.places).bind fun r5 =>
  (qbm n path 0 (W64 (r5-1))).bind fun r6 =>
  some (!r6)).bind fun b1 =>
 bif b1 then some false else
 (qbA v path n 1).bind fun o=>match o with
 | .ret r=>some r
 | .nxt _ =>
  some true
theorem qgW {v:(Option Tview)} {path:(List Int)} (ha1:GoT.R w (old w) v cs1) (ha2:GoT.R w (old w) path cs2) {r:Bool} (hF:qc2 n v path=some r):RetV Tryz.prog 32 [GoT.v (Option Tview) cs1,GoT.v (List Int) cs2] w r:=by
 obtain ⟨p1,rfl,s1⟩:=qda ha1
 obtain ⟨p2,k1,rfl,s2⟩:=ha2
 refine zV 40 Tryz.func32 rfl fun h=>X0 6 rfl ?_
 obtain ⟨KF1,hKF1,o2,hF,hK2⟩:=bindE hF
 refine qa8 (fun e w'=>∃ (b1:Bool),KF1 b1=some r∧e=[(0,.pointer p1),(1,.slice p2 path.length k1),(20,.bool b1)]∧SH w w' []) ?_ ?_
 ·refine X0 2 rfl (zcI h hF (qaJ ⟨_,_,rfl,(h.oldS s2)⟩) rfl fun r3 w5 h hF=>zcB h hF qah rfl fun r4 w6 h hF=>zp2 rfl (qh (t:=10) hF rfl ?_ ?_))<;>intro hF
  ·refine X0 11 rfl ?_
   obtain rfl:=qc hF
   exact rG ⟨_,hK2,rfl,h⟩ rfl
  refine X0 5 rfl ?_
  obtain ⟨y3,hy3,hF⟩:=qe hF
  obtain ⟨b4,o_3,cs5,rfl,-,hr7,hc6⟩:=PtR.get s1 hy3
  obtain ⟨p4,k3,p5,k4,p6,k5,p7,k6,p8,k7,p9,k8,p10,k9,p11,k10,p12,k11,p13,k12,rfl,s3,s4,s5,s6,s7,s8,s9,s10,s11,s12⟩:=qgN hr7
  refine X0 4 rfl (zc 5 (hc6.below h.below) rfl (X0 1 rfl (zcI h hF (qef ⟨_,_,rfl,(h.oldS s8)⟩) rfl fun r5 w7 h hF=>X0 3 rfl (zcB h hF (qbU ⟨_,_,rfl,(h.oldS s2)⟩) rfl fun r6 w8 h hF=>X0 4 rfl ?_))))
  obtain rfl:=qc hF
  exact rG ⟨_,hK2,rfl,h⟩ rfl
 rintro e2 w9 ⟨b1,hF,rfl,h⟩
 subst hKF1
 refine qk rfl hF ?_ ?_<;>intro hF
 ·exact X0 4 rfl (rb h hF rfl)
 refine X0 6 rfl ?_
 obtain ⟨o1,hF,hK1⟩:=qe hF
 refine ql (rL (fun m e w'=>∃ (i1:Int),qbA v path m i1=some o1∧e=[(0,.pointer p1),(1,.slice p2 path.length k1),(5,.int .i64 i1)]∧SH w w' []) n ⟨_,hF,rfl,h⟩ rfl ?_)
 rintro m1 e1 w1 ⟨i1,hF,rfl,h⟩
 rcases m1 with _|m1
 ·cases hF
 refine X0 8 rfl (qk rfl hF ?_ ?_)<;>intro hF
 ·refine X0 4 rfl (rA [] [] h rfl fun w2 h=>M0 15 [0,1,2,3] (h.pick [] rfl) rfl ?_)
  obtain ⟨y1,hy1,hF,he1,b2,_,q1,cs3,hp1,hq1,rfl,hc3⟩:=s2.ix hF
  refine Ae 4 31 hp1 hq1 he1 (h.pick [] rfl) rfl (Al 5 63 0 hc3 (h.pick [] rfl) rfl (M0 447 [7,8] (h.pick [] rfl) rfl ?_))
  obtain ⟨y2,hy2,hF,he2,b3,_,q2,cs4,hp2,hq2,rfl,hc4⟩:=s2.ix hF
  refine Ae 9 959 hp2 hq2 he2 (h.pick [] rfl) rfl (Al 10 1983 0 hc4 (h.pick [] rfl) rfl (Ao 6 2047 rfl (zcL h hF (qdg (h.old s1)) rfl fun r1 w3 S1 p3 k2 h hF=>Ag (h.pick [] rfl) (Ao 11 4095 rfl (zcB h hF (qeS (h.own 0 rfl)) rfl fun r2 w4 h hF=>G0 8191 [12] (h.pick [] rfl) rfl (Ad (qk rfl hF ?_ ?_)))))))<;>intro hF
  ·refine X0 4 rfl ?_
   obtain rfl:=qc hF;replace hF:=hK1
   exact rb h hF rfl
  refine X0 7 rfl ?_
  replace h:=h.pick [] rfl
  exact rK ⟨_,hF,rfl,h⟩ rfl
 refine qp rfl ?_
 obtain rfl:=qc hF;replace hF:=hK1
 exact X0 4 rfl (rb h hF rfl)
end Go.Fw
