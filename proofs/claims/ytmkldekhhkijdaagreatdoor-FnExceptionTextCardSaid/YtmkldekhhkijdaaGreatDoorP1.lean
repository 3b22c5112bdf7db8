/- By a program of mine (gen.py): for each function a plain function and the proof that the code computes it. -/
import Derived.Test.YtmkldekhhkijdaaGreatDoorA3
open Option renaming bind_some → je
open Nat renaming le_refl → jf, le_of_ble_eq_true → js, mul_le_mul_right → jt, lt_of_lt_of_le → jw, zero_le → jB, succ_mul → jJ, le_trans → jV, zero_add → jW
open List renaming length_append → jg, length_singleton → ji, mem_cons_of_mem → jk, getElem?_eq_getElem → jm, mem_cons_self → jq, getElem_mem → jr, mem_of_getElem? → ju, length_cons → jv, getD_eq_getElem?_getD → jx, length_map → jy, not_mem_nil → jA, getElem?_append_left → jD, drop_eq_getElem_cons → jE, getElem?_take → jF, eq_nil_of_length_eq_zero → jG, append_assoc → jI, getElem?_toArray → jK, getElem?_append_right → jL, mem_cons → jM, size_toArray → jO, getElem_of_mem → jQ, append_nil → jR, all_eq_true → jS, take_length → jT
open Bool renaming and_eq_true → jh, eq_iff_iff → jp, true_and → jC, not_eq_true' → jH, not_true → jU
open Go.Result renaming andThen_ok → jj
open Go.Sem renaming run_bind → jl, run_pure → jo
open Int renaming toNat_natCast → jz
open Array renaming length_toList → jN, getElem?_append_left → jP

namespace Go.Fw
open Go Go.Proofs
open Go.RowKit (Below)
set_option maxRecDepth 100000
set_option maxHeartbeats 6400000
variable {n:Nat} {w:World} {cs1 cs2 cs3 cs4 cs5 cs6 cs7 cs8 cs9:List Value}
def qbA (c:qr):Nat→Int→Option (Flow Bool Int)
 | 0,_=>none
 | n+1,i1 =>
  bif decide (i1<(c.Ar.length:Int)) then
   (idx c.Ar i1).bind fun y1 =>
   (qft n c y1).bind fun r1 =>
   bif (!r1) then some (.ret false) else
   (subS c.Ar 0 i1).bind fun x1 =>
   (qaj n x1 y1).bind fun r2 =>
   bif r2 then some (.ret false) else
   qbA c n (W64 (i1+1))
  else
   some (.nxt i1)
def qeD (n:Nat) (c:qr):Option Bool :=
 (qbA c n 0).bind fun o=>match o with
 | .ret r=>some r
 | .nxt _ =>
  some (decide ((c.Ar.length:Int)≤8))
theorem qiy {c:qr} (ha1:GoT.R w (old w) c cs1) {r:Bool} (hF:qeD n c=some r):RetV Tryz.prog 179 [GoT.v qr cs1] w r:=by
 obtain ⟨p1,k1,p2,k2,p3,k3,rfl,s1,s2,s3⟩:=qQ ha1
 refine zV 30 Tryz.func179 rfl fun h=>zSR (qO h rfl rfl fun w1 bb1 h=>X1 10 0 h rfl ?_)
 obtain ⟨o1,hF,hK1⟩:=qe hF
 refine qq (rL (fun m e w'=>∃ (i1:Int),qbA c m i1=some o1∧e=[(1,.pointer (some ⟨bb1,0,none⟩)),(6,.slice p2 c.Ar.length k2),(7,.int .i64 (c.Ar.length:Int)),(8,.int .i64 i1)]∧SH w w' [Ch.box bb1 (qv c p1 p2 p3 k1 k2 k3) 169]) n ⟨_,hF,rfl,h⟩ rfl ?_)
 rintro m1 e1 w2 ⟨i1,hF,rfl,h⟩
 rcases m1 with _|m1
 ·cases hF
 refine X0 5 rfl (qm rfl hF ?_ ?_)<;>intro hF
 ·refine X0 6 rfl ?_
  obtain ⟨y1,hy1,hF,he1,b1,_,q1,cs2,hp1,hq1,hr1,hc2⟩:=s2.ix hF
  obtain ⟨p4,k4,p5,k5,rfl,s4,s5⟩:=qaM hr1
  refine zxe hp1 hq1 he1 rfl (zc 0 (hc2.below h.below) rfl (qx qb h rfl rfl rfl fun w3 bb2 h=>zp1 rfl (zs 0 h rfl fun w4 h=>X2 5 1 0 h rfl (zcB h hF (qjt (h.old ha1) (qhH y1 (h.oldS s4) (h.oldS s5))) rfl fun r1 w5 h hF=>zp2 rfl (qi (t:=17) hF rfl ?_ ?_)))))<;>intro hF
  ·refine X0 8 rfl (qdP rfl rfl (X0 4 rfl ?_))
   obtain rfl:=qd hF;replace hF:=hK1
   exact rb h hF rfl
  refine X1 7 1 h rfl ?_
  obtain ⟨x1,hx1,hF⟩:=qe hF
  obtain ⟨p6,k6,hp2,hk1,hl1,g1⟩:=qld (h.oldS s2) hx1
  refine r_v (qiF qb rfl rfl rfl (qln g1 rfl) hp2 hk1 hl1 rfl rfl rfl rfl) rfl ?_
  have s6:=qkV s2 hx1 hp2 hk1
  refine X0 3 rfl (zcB h hF (qc4 ⟨_,_,rfl,(h.oldS s6)⟩ (qfS (x:=y1) 0 h rfl (qhH y1 (h.oldS s4) (h.oldS s5)))) rfl fun r2 w6 h hF=>X0 2 rfl (qm rfl hF ?_ ?_))<;>intro hF
  ·refine X0 4 rfl ?_
   obtain rfl:=qd hF;replace hF:=hK1
   exact rb h hF rfl
  refine X0 6 rfl ?_
  replace h:=h.pick [1] rfl
  exact rK ⟨_,hF,rfl,h⟩ rfl
 refine qy rfl ?_
 obtain rfl:=qd hF;replace hF:=hK1
 exact X1 8 0 h rfl (rb h hF rfl)
def qgA (_:Nat) (a:qaw) (v0:Int):Option Bool :=
 some (a.Am==v0)
theorem qjs {a:qaw} {v0:Int} (ha1:GoT.R w (old w) a cs1) {p3:Option Addr} (ha2:GoT.R w (old w) (some v0) [.pointer p3]) {r:Bool} (hF:qgA n a v0=some r):RetV Tryz.prog 251 [GoT.v qaw cs1,.pointer p3] w r:=by
 obtain ⟨p1,k1,p2,k2,rfl,s1,s2⟩:=qaM ha1
 obtain ⟨b1,o_1,cs2,rfl,-,hr1,hc1⟩:=PtR.get ha2 rfl
 obtain rfl:=hr1
 exact zV 8 Tryz.func251 rfl fun h=>zSR (qO h rfl rfl fun w1 bb1 h=>X1 6 0 h rfl (zc 0 (hc1.below h.below) rfl (X0 3 rfl (rb h hF rfl))))
def qK (s:(List qaw)) (f_0:Int):Nat→Int→Option (Flow Int Int)
 | 0,_=>none
 | n+1,i1 =>
  bif decide (i1<(s.length:Int)) then
   (idx s i1).bind fun y1 =>
   (qgA n y1 f_0).bind fun r1 =>
   bif r1 then some (.ret i1) else
   qK s f_0 n (W64 (i1+1))
  else
   some (.nxt i1)
def qa3 (n:Nat) (s:(List qaw)) (f_0:Int):Option Int :=
 (qK s f_0 n 0).bind fun o=>match o with
 | .ret r=>some r
 | .nxt _ =>
  some (-1)
theorem qd7 {s:(List qaw)} {f_0:Int} (ha1:GoT.R w (old w) s cs1) {p2:Option Addr} (ha2:GoT.R w (old w) (some f_0) [.pointer p2]) {r:Int} (hF:qa3 n s f_0=some r):RetV Tryz.prog 250 [GoT.v (List qaw) cs1,.func (.func 251) #[] #[.pointer p2]] w r:=by
 obtain ⟨p1,k1,rfl,s1⟩:=ha1
 obtain ⟨b1,o_1,cs2,rfl,-,hr1,hc1⟩:=PtR.get ha2 rfl
 obtain rfl:=hr1
 refine zV 19 Tryz.func250 rfl fun h=>X0 11 rfl ?_
 obtain ⟨o1,hF,hK1⟩:=qe hF
 refine qq (rL (fun m e w'=>∃ (i1:Int),qK s f_0 m i1=some o1∧e=[(0,.slice p1 s.length k1),(1,.func (.func 251) #[] #[.pointer (some ⟨b1,o_1,none⟩)]),(7,.int .i64 (s.length:Int)),(8,.int .i64 i1)]∧SH w w' []) n ⟨_,hF,rfl,h⟩ rfl ?_)
 rintro m1 e1 w1 ⟨i1,hF,rfl,h⟩
 rcases m1 with _|m1
 ·cases hF
 refine X0 5 rfl (qm rfl hF ?_ ?_)<;>intro hF
 ·refine X0 13 rfl ?_
  obtain ⟨y1,hy1,hF,he1,b2,_,q1,cs3,hp1,hq1,hr2,hc3⟩:=s1.ix hF
  obtain ⟨p3,k2,p4,k3,rfl,s2,s3⟩:=qaM hr2
  refine zxe hp1 hq1 he1 rfl (zc 0 (hc3.below h.below) rfl (zcB h hF (qjs (qhH y1 (h.oldS s2) (h.oldS s3)) (h.old ha2)) rfl fun r1 w2 h hF=>qa5 (qm rfl hF ?_ ?_)))<;>intro hF
  ·refine X0 5 rfl ?_
   obtain rfl:=qd hF;replace hF:=hK1
   exact ri h hF rfl
  exact X0 6 rfl (rK ⟨_,hF,rfl,h⟩ rfl)
 refine qy rfl ?_
 obtain rfl:=qd hF;replace hF:=hK1
 exact X0 4 rfl (ri h hF rfl)
def qaR (n:Nat) (s:(List qaw)) (f_0:Int):Option Bool :=
 (qa3 n s f_0).bind fun r1 =>
 some (decide (r1 ≥ 0))
theorem qdJ {s:(List qaw)} {f_0:Int} (ha1:GoT.R w (old w) s cs1) {p2:Option Addr} (ha2:GoT.R w (old w) (some f_0) [.pointer p2]) {r:Bool} (hF:qaR n s f_0=some r):RetV Tryz.prog 216 [GoT.v (List qaw) cs1,.func (.func 251) #[] #[.pointer p2]] w r:=by
 obtain ⟨p1,k1,rfl,s1⟩:=ha1
 obtain ⟨b1,o_1,cs2,rfl,-,hr1,hc1⟩:=PtR.get ha2 rfl
 obtain rfl:=hr1
 exact zV 9 Tryz.func216 rfl fun h=>X0 8 rfl (zcI h hF (qd7 ⟨_,_,rfl,(h.oldS s1)⟩ (h.old ha2)) rfl fun r1 w1 h hF=>X0 3 rfl (rb h hF rfl))
def qcu (n:Nat) (c:qr) (kind:Int):Option Bool :=
 (qaR n c.Ar kind).bind fun r1 =>
 some r1
theorem qc6 {c:qr} {kind:Int} (ha1:GoT.R w (old w) c cs1) {r:Bool} (hF:qcu n c kind=some r):RetV Tryz.prog 219 [GoT.v qr cs1,.int .i64 kind] w r:=by
 obtain ⟨p1,k1,p2,k2,p3,k3,rfl,s1,s2,s3⟩:=qQ ha1
 exact zV 9 Tryz.func219 rfl fun h=>zSR (qO h rfl rfl fun w1 bb1 h=>qO h rfl rfl fun w2 bb2 h=>X1 7 1 h rfl (zcB h hF (qdJ ⟨_,_,rfl,(h.oldS s2)⟩ (qfS (x:=kind) 0 h rfl rfl)) rfl fun r1 w3 h hF=>X0 2 rfl (rb h hF rfl)))
def qaP (a_0:qr):Nat→Int→Int→Option (Int × Int)
 | 0,_,_=>none
 | n+1,i1,i2 =>
  bif decide (i2<(a_0.Aq.length:Int)) then
   (idx a_0.Aq i2).bind fun y1 =>
   bif y1.Bc then qaP a_0 n (W64 (i1+1)) (W64 (i2+1)) else
   qaP a_0 n i1 (W64 (i2+1))
  else
   some (i1,i2)
def qeg (n:Nat) (a_0:qr):Option Bool :=
 (qaP a_0 n 0 0).bind fun o=>match o with
 | (i1,_) =>
  bif (a_0.Am==1) then
   bif (i1==0) then
    (qc8 n a_0).bind fun r1 =>
    (shlS 1 r1).bind fun y2 =>
    bif ((a_0.Bb.length:Int)==y2) then
     (qbl n a_0.Bb 0 1).bind fun r2 =>
     some r2
    else
     some false
   else
    some false
  else
   bif (a_0.Am==2) then
    bif (i1==1) then
     bif ((a_0.Bb.length:Int)==0) then
      (qcu n a_0 1).bind fun r3 =>
      bif (!r3) then
       (qcu n a_0 2).bind fun r4 =>
       (qcu n a_0 3).bind fun r5 =>
       some (!(r4==r5))
      else
       some false
     else
      some false
    else
     some false
   else
    bif (a_0.Am==3) then
     bif (i1==1) then
      bif ((a_0.Bb.length:Int)==0) then
       (qcu n a_0 1).bind fun r6 =>
       bif r6 then
        (qcu n a_0 2).bind fun r7 =>
        bif r7 then
         (qcu n a_0 3).bind fun r8 =>
         some (!r8)
        else
         some false
       else
        some false
      else
       some false
     else
      some false
    else
     some false
theorem qil {a_0:qr} (ha1:GoT.R w (old w) a_0 cs1) {r:Bool} (hF:qeg n a_0=some r):RetV Tryz.prog 180 [GoT.v qr cs1] w r:=by
 obtain ⟨p1,k1,p2,k2,p3,k3,rfl,s1,s2,s3⟩:=qQ ha1
 refine zV 83 Tryz.func180 rfl fun h=>zSR (qO h rfl rfl fun w1 bb1 h=>X1 14 0 h rfl ?_)
 obtain ⟨o1,hF,hK1⟩:=qe hF
 refine qq (rL (fun m e w'=>∃ (i1:Int) (i2:Int),qaP a_0 m i1 i2=some o1∧e=[(1,.pointer (some ⟨bb1,0,none⟩)),(3,.int .i64 i1),(7,.slice p1 a_0.Aq.length k1),(8,.int .i64 (a_0.Aq.length:Int)),(9,.int .i64 i2)]∧SH w w' [Ch.box bb1 (qv a_0 p1 p2 p3 k1 k2 k3) 169]) n ⟨_,_,hF,rfl,h⟩ rfl ?_)
 rintro m1 e1 w2 ⟨i1,i2,hF,rfl,h⟩
 rcases m1 with _|m1
 ·cases hF
 refine X0 5 rfl (qm rfl hF ?_ ?_)<;>intro hF
 ·refine zKSBSR ?_
  obtain ⟨y1,hy1,hF,he1,b1,_,q1,cs2,hp1,hq1,hr1,hc2⟩:=s1.ix hF
  obtain rfl:=qdg hr1
  refine zxe hp1 hq1 he1 rfl (zc 0 (hc2.below h.below) rfl (qx qb h rfl rfl rfl fun w3 bb2 h=>zs 0 h rfl fun w4 h=>X1 6 0 h rfl (qm rfl hF ?_ ?_)))<;>intro hF
  ·refine X0 10 rfl ?_
   replace h:=h.pick [1] rfl
   exact rK ⟨_,_,hF,rfl,h⟩ rfl
  refine X0 6 rfl ?_
  replace h:=h.pick [1] rfl
  exact rK ⟨_,_,hF,rfl,h⟩ rfl
 refine qy rfl ?_
 obtain rfl:=qd hF;replace hF:=hK1
 refine X1 12 0 h rfl (qm rfl hF ?_ ?_)<;>intro hF
 ·refine qeK (rD (zd3 rfl (qaD (t:=24) hF rfl ?_ ?_)))<;>intro hF
  ·refine Y1 4 0 h rfl ?_
   refine Y1 4 0 h rfl ?_
   refine Y0 1 rfl ?_
   obtain ⟨r1,hr2,hF⟩:=qe hF
   refine qcg r1 (vsI _) (cB 218 rfl) (fun _ hb=>qfh ((h.ext hb).old ha1) hr2) rfl rfl rfl rfl (Y0 1 rfl ?_)
   obtain ⟨y2,hx1,hF⟩:=qe hF
   obtain ⟨g1,hx1⟩:=qi4 hx1
   refine d_v (fun _ hb=>qn3 g1 rfl rfl) rfl ?_
   rw [hx1]
   refine Y0 4 rfl (qaD (t:=33) hF rfl ?_ ?_)<;>intro hF
   ·refine Y1 4 0 h rfl ?_
    refine Y0 1 rfl ?_
    obtain ⟨r2,hr3,hF⟩:=qe hF
    exact qcg r2 (vsB _) (cB 76 rfl) (fun _ hb=>qbV ⟨_,_,rfl,((h.ext hb).oldS s3)⟩ hr3) rfl rfl rfl rfl (zd2 rfl (dN h fun w5 h=>rb h hF rfl))
   exact Y0 5 rfl (dN h fun w6 h=>rb h hF rfl)
  exact Y0 14 rfl (dN h fun w7 h=>rb h hF rfl)
 refine X0 5 rfl (qm rfl hF ?_ ?_)<;>intro hF
 ·refine qeK (rD (zd3 rfl (qaD (t:=42) hF rfl ?_ ?_)))<;>intro hF
  ·refine Y1 4 0 h rfl ?_
   refine Y0 6 rfl (qaD (t:=48) hF rfl ?_ ?_)<;>intro hF
   ·refine Y1 2 0 h rfl ?_
    refine Y0 1 rfl ?_
    obtain ⟨r3,hr4,hF⟩:=qe hF
    refine qcg r3 (vsB _) (cB 219 rfl) (fun _ hb=>qc6 ((h.ext hb).old ha1) hr4) rfl rfl rfl rfl (Y0 4 rfl (qaD (t:=53) hF rfl ?_ ?_))<;>intro hF
    ·refine Y1 2 0 h rfl ?_
     refine Y0 1 rfl ?_
     obtain ⟨r4,hr5,hF⟩:=qe hF
     refine qcg r4 (vsB _) (cB 219 rfl) (fun _ hb=>qc6 ((h.ext hb).old ha1) hr5) rfl rfl rfl rfl (Y1 2 0 h rfl ?_)
     refine Y0 1 rfl ?_
     obtain ⟨r5,hr6,hF⟩:=qe hF
     exact qcg r5 (vsB _) (cB 219 rfl) (fun _ hb=>qc6 ((h.ext hb).old ha1) hr6) rfl rfl rfl rfl (Y0 4 rfl (dN h fun w8 h=>rb h hF rfl))
    exact Y0 7 rfl (dN h fun w9 h=>rb h hF rfl)
   exact Y0 12 rfl (dN h fun w10 h=>rb h hF rfl)
  exact Y0 18 rfl (dN h fun w11 h=>rb h hF rfl)
 refine X0 5 rfl (qm rfl hF ?_ ?_)<;>intro hF
 ·refine X0 5 rfl (qi (t:=64) hF rfl ?_ ?_)<;>intro hF
  ·refine X1 10 0 h rfl (qi (t:=70) hF rfl ?_ ?_)<;>intro hF
   ·refine X1 3 0 h rfl (zcB h hF (qc6 (h.old ha1)) rfl fun r6 w12 h hF=>zp2 rfl (qi (t:=74) hF rfl ?_ ?_))<;>intro hF
    ·refine X1 3 0 h rfl (zcB h hF (qc6 (h.old ha1)) rfl fun r7 w13 h hF=>zp2 rfl (qi (t:=78) hF rfl ?_ ?_))<;>intro hF
     ·exact X1 3 0 h rfl (zcB h hF (qc6 (h.old ha1)) rfl fun r8 w14 h hF=>X0 5 rfl (rb h hF rfl))
     exact X0 6 rfl (rb h hF rfl)
    exact X0 10 rfl (rb h hF rfl)
   exact X0 14 rfl (rb h hF rfl)
  exact X0 20 rfl (rb h hF rfl)
 exact X0 6 rfl (rb h hF rfl)
def qhe (n:Nat) (c:qr):Option Bool :=
 (qgi n c.As).bind fun r1 =>
 bif r1 then
  (qgG n c.Aq).bind fun r2 =>
  bif r2 then
   (qeD n c).bind fun r3 =>
   bif r3 then
    (qaA n c.Bo 0 100000).bind fun r4 =>
    bif r4 then
     (qaA n c.Bk 0 100000).bind fun r5 =>
     bif r5 then
      (qeg n c).bind fun r6 =>
      some r6
     else
      some false
    else
     some false
   else
    some false
  else
   some false
 else
  some false
theorem qll {c:qr} (ha1:GoT.R w (old w) c cs1) {r:Bool} (hF:qhe n c=some r):RetV Tryz.prog 149 [GoT.v qr cs1] w r:=by
 obtain ⟨p1,k1,p2,k2,p3,k3,rfl,s1,s2,s3⟩:=qQ ha1
 refine zV 29 Tryz.func149 rfl fun h=>zSR (qO h rfl rfl fun w1 bb1 h=>X1 6 0 h rfl (zcB h hF qiE rfl fun r1 w2 h hF=>zp1 rfl (qi (t:=6) hF rfl ?_ ?_)))<;>intro hF
 ·refine X1 5 0 h rfl (zcB h hF (qkD ⟨_,_,rfl,(h.oldS s1)⟩) rfl fun r2 w3 h hF=>zp2 rfl (qi (t:=11) hF rfl ?_ ?_))<;>intro hF
  ·refine X1 3 0 h rfl (zcB h hF (qiy (h.old ha1)) rfl fun r3 w4 h hF=>zp2 rfl (qi (t:=15) hF rfl ?_ ?_))<;>intro hF
   ·refine X1 5 0 h rfl (zcB h hF qao rfl fun r4 w5 h hF=>zp2 rfl (qi (t:=20) hF rfl ?_ ?_))<;>intro hF
    ·refine X1 5 0 h rfl (zcB h hF qao rfl fun r5 w6 h hF=>zp2 rfl (qi (t:=25) hF rfl ?_ ?_))<;>intro hF
     ·exact X1 3 0 h rfl (zcB h hF (qil (h.old ha1)) rfl fun r6 w7 h hF=>X0 3 rfl (rb h hF rfl))
     exact X0 5 rfl (rb h hF rfl)
    exact X0 10 rfl (rb h hF rfl)
   exact X0 15 rfl (rb h hF rfl)
  exact X0 19 rfl (rb h hF rfl)
 exact X0 24 rfl (rb h hF rfl)
def qbO (l:qj):Nat→(List ByteArray)→Int→Option (Flow Bool ((List ByteArray) × Int))
 | 0,_,_=>none
 | n+1,x1,i1 =>
  bif decide (i1<(l.Ai.length:Int)) then
   (idx l.Ai i1).bind fun y1 =>
   (qhe n y1).bind fun r1 =>
   bif (!r1) then some (.ret false) else
   (appS x1 ([y1.As]:List ByteArray)).bind fun x2 =>
   qbO l n x2 (W64 (i1+1))
  else
   some (.nxt (x1,i1))
def qfE (n:Nat) (l:qj):Option Bool :=
 (qbO l n ([]:List ByteArray) 0).bind fun o=>match o with
 | .ret r=>some r
 | .nxt (x1,_) =>
  bif decide ((l.Ai.length:Int)≤8) then
   (qcZ n x1).bind fun r2 =>
   some r2
  else
   some false
theorem qjN {l:qj} (ha1:GoT.R w (old w) l cs1) {r:Bool} (hF:qfE n l=some r):RetV Tryz.prog 109 [GoT.v qj cs1] w r:=by
 obtain ⟨p1,k1,rfl,s1⟩:=qaK ha1
 refine zV 30 Tryz.func109 rfl fun h=>zSR (qO h rfl rfl fun w1 bb1 h=>X1 14 0 h rfl ?_)
 replace h:=h.nil (α:=ByteArray)
 obtain ⟨o1,hF,hK1⟩:=qe hF
 refine qq (rL (fun m e w'=>∃ (S1:Nat→Prop) (p2:Option Addr) (ln1:Nat) (k2:Nat) (x1:(List ByteArray)) (i1:Int),qbO l m x1 i1=some o1∧e=[(1,.pointer (some ⟨bb1,0,none⟩)),(3,.slice p2 ln1 k2),(7,.slice p1 l.Ai.length k1),(8,.int .i64 (l.Ai.length:Int)),(9,.int .i64 i1)]∧SH w w' [Ch.own S1 (x1:List ByteArray) [.slice p2 ln1 k2],Ch.box bb1 [.slice p1 l.Ai.length k1] 41]) n ⟨_,_,_,_,_,_,hF,rfl,h⟩ rfl ?_)
 rintro m1 e1 w2 ⟨S1,p2,ln1,k2,x1,i1,hF,rfl,h⟩
 obtain rfl:=(h.sl 0 rfl).2
 rcases m1 with _|m1
 ·cases hF
 refine X0 5 rfl (qm rfl hF ?_ ?_)<;>intro hF
 ·refine zKSBSR ?_
  obtain ⟨y1,hy1,hF,he1,b1,_,q1,cs2,hp1,hq1,hr1,hc2⟩:=s1.ix hF
  obtain ⟨p3,k3,p4,k4,p5,k5,rfl,s2,s3,s4⟩:=qQ hr1
  refine zxe hp1 hq1 he1 rfl (zc 0 (hc2.below h.below) rfl (qx qb h rfl rfl rfl fun w3 bb2 h=>zs 0 h rfl fun w4 h=>X1 5 0 h rfl (zcB h hF (qll (qkf y1 (h.oldS s2) (h.oldS s3) (h.oldS s4))) rfl fun r1 w5 h hF=>X0 2 rfl (qm rfl hF ?_ ?_))))<;>intro hF
  ·refine X0 4 rfl ?_
   obtain rfl:=qd hF;replace hF:=hK1
   exact rb h hF rfl
  refine X1 5 0 h rfl (ql qb [.tmp 18] _ ([y1.As]:List ByteArray) h rfl rfl rfl rfl rfl rfl rfl rfl rfl ⟨rfl,trivial⟩ rfl fun w6 p6 S2 h=>?_)
  obtain ⟨x2,hx1,hF⟩:=qe hF
  obtain ⟨g1,hx1⟩:=qw hx1
  refine qak qb 2 h rfl (h.sl 0 rfl).1 (h.sl 0 rfl).2 rfl rfl rfl rfl rfl rfl rfl rfl rfl g1 hx1 rfl fun w7 p7 k6 S3 h=>X0 7 rfl ?_
  replace h:=h.pick [2,3] rfl
  exact rK ⟨_,_,_,_,_,_,hF,rfl,h⟩ rfl
 refine qy rfl ?_
 obtain rfl:=qd hF;replace hF:=hK1
 refine X1 7 1 h rfl (qi (t:=26) hF rfl ?_ ?_)<;>intro hF
 ·exact X0 3 rfl (zcB h hF (qeb (h.own 0 rfl)) rfl fun r2 w8 h hF=>X0 3 rfl (rb h hF rfl))
 exact X0 5 rfl (rb h hF rfl)
def qaV (d:qg):Nat→(List ByteArray)→Int→Option ((List ByteArray) × Int)
 | 0,_,_=>none
 | n+1,x3,i2 =>
  bif decide (i2<(d.Af.length:Int)) then
   (idx d.Af i2).bind fun y2 =>
   (appS x3 ([y2.As]:List ByteArray)).bind fun x4 =>
   qaV d n x4 (W64 (i2+1))
  else
   some (x3,i2)
def qaU (d:qg):Nat→(List ByteArray)→Int→Option ((List ByteArray) × Int)
 | 0,_,_=>none
 | n+1,x1,i1 =>
  bif decide (i1<(d.Ab.length:Int)) then
   (idx d.Ab i1).bind fun y1 =>
   (appS x1 ([y1.As]:List ByteArray)).bind fun x2 =>
   qaU d n x2 (W64 (i1+1))
  else
   some (x1,i1)
def qdN (n:Nat) (d:qg):Option Bool :=
 (qaU d n ([]:List ByteArray) 0).bind fun o=>match o with
 | (x1,_) =>
  (qaV d n ([]:List ByteArray) 0).bind fun o=>match o with
  | (x3,_) =>
   bif decide ((x1.length:Int)≤14) then
    bif decide ((d.Aj.length:Int)≤30) then
     bif decide ((x3.length:Int)≤8) then
      (qcZ n x1).bind fun r1 =>
      bif r1 then
       (qcZ n d.Aj).bind fun r2 =>
       bif r2 then
        (qcZ n x3).bind fun r3 =>
        some r3
       else
        some false
      else
       some false
     else
      some false
    else
     some false
   else
    some false
theorem qhG {d:qg} (ha1:GoT.R w (old w) d cs1) {r:Bool} (hF:qdN n d=some r):RetV Tryz.prog 110 [GoT.v qg cs1] w r:=by
 obtain ⟨p1,k1,p2,k2,p3,k3,rfl,s1,s2,s3⟩:=qZ ha1
 refine zV 62 Tryz.func110 rfl fun h=>zSR (qO h rfl rfl fun w1 bb1 h=>X1 15 0 h rfl ?_)
 replace h:=h.nil (α:=ByteArray)
 obtain ⟨o1,hF,hK1⟩:=qe hF
 refine qq (rL (fun m e w'=>∃ (S1:Nat→Prop) (p4:Option Addr) (ln1:Nat) (k4:Nat) (x1:(List ByteArray)) (i1:Int),qaU d m x1 i1=some o1∧e=[(1,.pointer (some ⟨bb1,0,none⟩)),(3,.slice p4 ln1 k4),(4,.slice none 0 0),(10,.slice p1 d.Ab.length k1),(11,.int .i64 (d.Ab.length:Int)),(12,.int .i64 i1)]∧SH w w' [Ch.own S1 (x1:List ByteArray) [.slice p4 ln1 k4],Ch.box bb1 (qal d p1 p2 p3 k1 k2 k3) 45]) n ⟨_,_,_,_,_,_,hF,rfl,h⟩ rfl ?_)
 rintro m1 e1 w2 ⟨S1,p4,ln1,k4,x1,i1,hF,rfl,h⟩
 obtain rfl:=(h.sl 0 rfl).2
 rcases m1 with _|m1
 ·cases hF
 refine X0 5 rfl (qm rfl hF ?_ ?_)<;>intro hF
 ·refine zKSBSR ?_
  obtain ⟨y1,hy1,hF,he1,b1,_,q1,cs2,hp1,hq1,hr1,hc2⟩:=s1.ix hF
  obtain ⟨p5,k5,rfl,s4⟩:=qau hr1
  refine zxe hp1 hq1 he1 rfl (zc 0 (hc2.below h.below) rfl (qx qb h rfl rfl rfl fun w3 bb2 h=>zs 0 h rfl fun w4 h=>X1 5 0 h rfl (ql qb [.tmp 18] _ ([y1.As]:List ByteArray) h rfl rfl rfl rfl rfl rfl rfl rfl rfl ⟨rfl,trivial⟩ rfl fun w5 p6 S2 h=>?_)))
  obtain ⟨x2,hx1,hF⟩:=qe hF
  obtain ⟨g1,hx1⟩:=qw hx1
  refine qak qb 2 h rfl (h.sl 0 rfl).1 (h.sl 0 rfl).2 rfl rfl rfl rfl rfl rfl rfl rfl rfl g1 hx1 rfl fun w6 p7 k6 S3 h=>X0 7 rfl ?_
  replace h:=h.pick [2,3] rfl
  exact rK ⟨_,_,_,_,_,_,hF,rfl,h⟩ rfl
 refine qy rfl ?_
 obtain rfl:=qd hF;replace hF:=hK1
 refine X1 8 1 h rfl ?_
 replace h:=h.nil (α:=ByteArray)
 obtain ⟨o2,hF,hK2⟩:=qe hF
 refine qq (rL (fun m e w'=>∃ (S4:Nat→Prop) (p8:Option Addr) (ln2:Nat) (k7:Nat) (x3:(List ByteArray)) (i2:Int),qaV d m x3 i2=some o2∧e=[(1,.pointer (some ⟨bb1,0,none⟩)),(3,.slice p4 x1.length k4),(4,.slice p8 ln2 k7),(23,.slice p3 d.Af.length k3),(24,.int .i64 (d.Af.length:Int)),(25,.int .i64 i2)]∧SH w w' [Ch.own S4 (x3:List ByteArray) [.slice p8 ln2 k7],Ch.own S1 (x1:List ByteArray) [.slice p4 x1.length k4],Ch.box bb1 (qal d p1 p2 p3 k1 k2 k3) 45]) n ⟨_,_,_,_,_,_,hF,rfl,h⟩ rfl ?_)
 rintro m2 e2 w7 ⟨S4,p8,ln2,k7,x3,i2,hF,rfl,h⟩
 obtain rfl:=(h.sl 0 rfl).2
 rcases m2 with _|m2
 ·cases hF
 refine X0 5 rfl (qm rfl hF ?_ ?_)<;>intro hF
 ·refine zKSBSR ?_
  obtain ⟨y2,hy2,hF,he2,b2,_,q2,cs3,hp2,hq2,hr2,hc4⟩:=s3.ix hF
  obtain rfl:=qcp hr2
  refine zxe hp2 hq2 he2 rfl (zc 0 (hc4.below h.below) rfl (qx qb h rfl rfl rfl fun w8 bb3 h=>zs 0 h rfl fun w9 h=>X1 5 0 h rfl (ql qb [.tmp 31] _ ([y2.As]:List ByteArray) h rfl rfl rfl rfl rfl rfl rfl rfl rfl ⟨rfl,trivial⟩ rfl fun w10 p9 S5 h=>?_)))
  obtain ⟨x4,hx2,hF⟩:=qe hF
  obtain ⟨g2,hx2⟩:=qw hx2
  refine qak qb 2 h rfl (h.sl 0 rfl).1 (h.sl 0 rfl).2 rfl rfl rfl rfl rfl rfl rfl rfl rfl g2 hx2 rfl fun w11 p10 k8 S6 h=>X0 7 rfl ?_
  replace h:=h.pick [2,3,4] rfl
  exact rK ⟨_,_,_,_,_,_,hF,rfl,h⟩ rfl
 refine qy rfl ?_
 obtain rfl:=qd hF;replace hF:=hK2
 refine X0 6 rfl (qi (t:=38) hF rfl ?_ ?_)<;>intro hF
 ·refine X1 10 2 h rfl (qi (t:=44) hF rfl ?_ ?_)<;>intro hF
  ·refine X0 8 rfl (qi (t:=49) hF rfl ?_ ?_)<;>intro hF
   ·refine X0 3 rfl (zcB h hF (qeb (h.own 1 rfl)) rfl fun r1 w12 h hF=>zp2 rfl (qi (t:=53) hF rfl ?_ ?_))<;>intro hF
    ·refine X1 5 2 h rfl (zcB h hF (qeb ⟨_,_,rfl,(h.oldS s2)⟩) rfl fun r2 w13 h hF=>zp2 rfl (qi (t:=58) hF rfl ?_ ?_))<;>intro hF
     ·exact X0 3 rfl (zcB h hF (qeb (h.own 0 rfl)) rfl fun r3 w14 h hF=>X0 3 rfl (rb h hF rfl))
     exact X0 5 rfl (rb h hF rfl)
    exact X0 10 rfl (rb h hF rfl)
   exact X0 14 rfl (rb h hF rfl)
  exact X0 19 rfl (rb h hF rfl)
 exact X0 25 rfl (rb h hF rfl)
def qex (_:Nat) (list:(List qr)):Option Int :=
 some (list.length:Int)
theorem qhr {list:(List qr)} (ha1:GoT.R w (old w) list cs1) {r:Int} (hF:qex n list=some r):RetV Tryz.prog 151 [GoT.v (List qr) cs1] w r:=by
 obtain ⟨p1,k1,rfl,s1⟩:=ha1
 exact zV 5 Tryz.func151 rfl fun h=>X0 10 rfl (ri h hF rfl)
def qfx (_:Nat) (list:(List ByteArray)):Option Int :=
 some (list.length:Int)
theorem qij {list:(List ByteArray)} (ha1:GoT.R w (old w) list cs1) {r:Int} (hF:qfx n list=some r):RetV Tryz.prog 153 [GoT.v (List ByteArray) cs1] w r:=by
 obtain ⟨p1,k1,rfl,s1⟩:=ha1
 exact zV 5 Tryz.func153 rfl fun h=>X0 10 rfl (ri h hF rfl)
def qcH (n:Nat) (d:qg) (net:Int):Option Bool :=
 (qfx n d.Aj).bind fun r1 =>
 (qaA n net 0 (W64 (r1-1))).bind fun r2 =>
 some r2
theorem qeG {d:qg} {net:Int} (ha1:GoT.R w (old w) d cs1) {r:Bool} (hF:qcH n d net=some r):RetV Tryz.prog 112 [GoT.v qg cs1,.int .i64 net] w r:=by
 obtain ⟨p1,k1,p2,k2,p3,k3,rfl,s1,s2,s3⟩:=qZ ha1
 exact zV 11 Tryz.func112 rfl fun h=>zSR (qO h rfl rfl fun w1 bb1 h=>X1 7 0 h rfl (zcI h hF (qij ⟨_,_,rfl,(h.oldS s2)⟩) rfl fun r1 w2 h hF=>zp1 rfl (zcB h hF qao rfl fun r2 w3 h hF=>X0 2 rfl (rb h hF rfl))))
def qcv (n:Nat) (net:Int) (v0:qg):Option Bool :=
 (qcH n v0 net).bind fun r1 =>
 some (!r1)
theorem qgI {net:Int} {v0:qg} {p1:Option Addr} (ha1:GoT.R w (old w) (some v0) [.pointer p1]) {r:Bool} (hF:qcv n net v0=some r):RetV Tryz.prog 152 [.int .i64 net,.pointer p1] w r:=by
 obtain ⟨b1,o_1,cs1,rfl,-,hr1,hc1⟩:=PtR.get ha1 rfl
 obtain ⟨p2,k1,p3,k2,p4,k3,rfl,s1,s2,s3⟩:=qZ hr1
 exact zV 8 Tryz.func152 rfl fun h=>X0 6 rfl (zc 0 (hc1.below h.below) rfl (zp1 rfl (zcB h hF (qeG (qat v0 (h.oldS s1) (h.oldS s2) (h.oldS s3))) rfl fun r1 w1 h hF=>X0 3 rfl (rb h hF rfl))))
def qE (s:(List Int)) (f_0:qg):Nat→Int→Option (Flow Int Int)
 | 0,_=>none
 | n+1,i1 =>
  bif decide (i1<(s.length:Int)) then
   (idx s i1).bind fun y1 =>
   (qcv n y1 f_0).bind fun r1 =>
   bif r1 then some (.ret i1) else
   qE s f_0 n (W64 (i1+1))
  else
   some (.nxt i1)
def qaH (n:Nat) (s:(List Int)) (f_0:qg):Option Int :=
 (qE s f_0 n 0).bind fun o=>match o with
 | .ret r=>some r
 | .nxt _ =>
  some (-1)
theorem qdj {s:(List Int)} {f_0:qg} (ha1:GoT.R w (old w) s cs1) {p2:Option Addr} (ha2:GoT.R w (old w) (some f_0) [.pointer p2]) {r:Int} (hF:qaH n s f_0=some r):RetV Tryz.prog 155 [GoT.v (List Int) cs1,.func (.func 152) #[] #[.pointer p2]] w r:=by
 obtain ⟨p1,k1,rfl,s1⟩:=ha1
 obtain ⟨b1,o_1,cs2,rfl,-,hr1,hc1⟩:=PtR.get ha2 rfl
 obtain ⟨p3,k2,p4,k3,p5,k4,rfl,s2,s3,s4⟩:=qZ hr1
 refine zV 19 Tryz.func155 rfl fun h=>X0 11 rfl ?_
 obtain ⟨o1,hF,hK1⟩:=qe hF
 refine qq (rL (fun m e w'=>∃ (i1:Int),qE s f_0 m i1=some o1∧e=[(0,.slice p1 s.length k1),(1,.func (.func 152) #[] #[.pointer (some ⟨b1,o_1,none⟩)]),(7,.int .i64 (s.length:Int)),(8,.int .i64 i1)]∧SH w w' []) n ⟨_,hF,rfl,h⟩ rfl ?_)
 rintro m1 e1 w1 ⟨i1,hF,rfl,h⟩
 rcases m1 with _|m1
 ·cases hF
 refine X0 5 rfl (qm rfl hF ?_ ?_)<;>intro hF
 ·refine X0 13 rfl ?_
  obtain ⟨y1,hy1,hF,he1,b2,_,q1,cs3,hp1,hq1,rfl,hc3⟩:=s1.ix hF
  refine zxe hp1 hq1 he1 rfl (zc 0 (hc3.below h.below) rfl (zcB h hF (qgI (h.old ha2)) rfl fun r1 w2 h hF=>qa5 (qm rfl hF ?_ ?_)))<;>intro hF
  ·refine X0 5 rfl ?_
   obtain rfl:=qd hF;replace hF:=hK1
   exact ri h hF rfl
  exact X0 6 rfl (rK ⟨_,hF,rfl,h⟩ rfl)
 refine qy rfl ?_
 obtain rfl:=qd hF;replace hF:=hK1
 exact X0 4 rfl (ri h hF rfl)
def qay (n:Nat) (s:(List Int)) (f_0:qg):Option Bool :=
 (qaH n s f_0).bind fun r1 =>
 some (decide (r1 ≥ 0))
theorem qcS {s:(List Int)} {f_0:qg} (ha1:GoT.R w (old w) s cs1) {p2:Option Addr} (ha2:GoT.R w (old w) (some f_0) [.pointer p2]) {r:Bool} (hF:qay n s f_0=some r):RetV Tryz.prog 122 [GoT.v (List Int) cs1,.func (.func 152) #[] #[.pointer p2]] w r:=by
 obtain ⟨p1,k1,rfl,s1⟩:=ha1
 obtain ⟨b1,o_1,cs2,rfl,-,hr1,hc1⟩:=PtR.get ha2 rfl
 obtain ⟨p3,k2,p4,k3,p5,k4,rfl,s2,s3,s4⟩:=qZ hr1
 exact zV 9 Tryz.func122 rfl fun h=>X0 8 rfl (zcI h hF (qdj ⟨_,_,rfl,(h.oldS s1)⟩ (h.old ha2)) rfl fun r1 w1 h hF=>X0 3 rfl (rb h hF rfl))
def qcU (n:Nat) (d:qg) (l:qj) (x:qu):Option Bool :=
 (qex n l.Ai).bind fun r1 =>
 (qaA n x.Ba 0 (W64 (r1-1))).bind fun r2 =>
 bif r2 then
  (idx l.Ai x.Ba).bind fun y1 =>
  bif ((x.Aj.length:Int)==(y1.Aq.length:Int)) then
   (qay n x.Aj d).bind fun r3 =>
   some (!r3)
  else
   some false
 else
  some false
theorem qg9 {d:qg} {l:qj} {x:qu} (ha1:GoT.R w (old w) d cs1) (ha2:GoT.R w (old w) l cs2) (ha3:GoT.R w (old w) x cs3) {r:Bool} (hF:qcU n d l x=some r):RetV Tryz.prog 111 [GoT.v qg cs1,GoT.v qj cs2,GoT.v qu cs3] w r:=by
 obtain ⟨p1,k1,p2,k2,p3,k3,rfl,s1,s2,s3⟩:=qZ ha1
 obtain ⟨p4,k4,rfl,s4⟩:=qaK ha2
 obtain ⟨p5,k5,rfl,s5⟩:=qau ha3
 refine zV 35 Tryz.func111 rfl fun h=>zSR (qO h rfl rfl fun w1 bb1 h=>qO h rfl rfl fun w2 bb2 h=>qO h rfl rfl fun w3 bb3 h=>X0 3 rfl (rD (Y1 2 0 h rfl ?_)))
 refine Y1 2 1 h rfl ?_
 obtain ⟨r1,hr1,hF⟩:=qe hF
 refine qcg r1 (vsI _) (cB 151 rfl) (fun _ hb=>qhr ⟨_,_,rfl,((h.ext hb).oldS s4)⟩ hr1) rfl rfl rfl rfl (zd1 rfl ?_)
 obtain ⟨r2,hr2,hF⟩:=qe hF
 refine qcg r2 (vsB _) (cB 115 rfl) (fun _ hb=>qao  hr2) rfl rfl rfl rfl (zd1 rfl (qaD (t:=14) hF rfl ?_ ?_))<;>intro hF
 ·refine Y1 4 0 h rfl ?_
  refine Y1 6 1 h rfl ?_
  refine Y1 4 0 h rfl ?_
  refine Y0 1 rfl ?_
  obtain ⟨y1,hy1,hF,he1,b1,_,q1,cs4,hp1,hq1,hr3,hc1⟩:=s4.ix hF
  obtain ⟨p6,k6,p7,k7,p8,k8,rfl,s6,s7,s8⟩:=qQ hr3
  refine zdxe hp1 hq1 he1 rfl (Y0 3 rfl (zdc 2 (hc1.below h.below) rfl (Y0 6 rfl (qaD (t:=28) hF rfl ?_ ?_))))<;>intro hF
  ·refine Y1 4 0 h rfl ?_
   refine Y0 3 rfl ?_
   obtain ⟨r3,hr4,hF⟩:=qe hF
   exact qcg r3 (vsB _) (cB 122 rfl) (fun _ hb=>qcS ⟨_,_,rfl,((h.ext hb).oldS s5)⟩ (qfS (x:=d) 2 (h.ext hb) rfl ((h.ext hb).old ha1)) hr4) rfl rfl rfl rfl (Y0 4 rfl (dN h fun w4 h=>rb h hF rfl))
  exact Y0 7 rfl (dN h fun w5 h=>rb h hF rfl)
 exact Y0 21 rfl (dN h fun w6 h=>rb h hF rfl)
def qgu (_:Nat) (a_n:Int):Option Bool :=
 some (a_n != 1)
theorem qjq {a_n:Int}  {r:Bool} (hF:qgu n a_n=some r):RetV Tryz.prog 114 [.int .i64 a_n] w r:=by
 exact zV 5 Tryz.func114 rfl fun h=>X0 10 rfl (rb h hF rfl)
def qY (s:(List Int)):Nat→Int→Option (Flow Int Int)
 | 0,_=>none
 | n+1,i1 =>
  bif decide (i1<(s.length:Int)) then
   (idx s i1).bind fun y1 =>
   (qgu n y1).bind fun r1 =>
   bif r1 then some (.ret i1) else
   qY s n (W64 (i1+1))
  else
   some (.nxt i1)
def qbq (n:Nat) (s:(List Int)):Option Int :=
 (qY s n 0).bind fun o=>match o with
 | .ret r=>some r
 | .nxt _ =>
  some (-1)
theorem qeE {s:(List Int)} (ha1:GoT.R w (old w) s cs1) {r:Int} (hF:qbq n s=some r):RetV Tryz.prog 154 [GoT.v (List Int) cs1,.func (.func 114) #[] #[]] w r:=by
 obtain ⟨p1,k1,rfl,s1⟩:=ha1
 refine zV 19 Tryz.func154 rfl fun h=>X0 11 rfl ?_
 obtain ⟨o1,hF,hK1⟩:=qe hF
 refine qq (rL (fun m e w'=>∃ (i1:Int),qY s m i1=some o1∧e=[(0,.slice p1 s.length k1),(1,.func (.func 114) #[] #[]),(7,.int .i64 (s.length:Int)),(8,.int .i64 i1)]∧SH w w' []) n ⟨_,hF,rfl,h⟩ rfl ?_)
 rintro m1 e1 w1 ⟨i1,hF,rfl,h⟩
 rcases m1 with _|m1
 ·cases hF
 refine X0 5 rfl (qm rfl hF ?_ ?_)<;>intro hF
 ·refine X0 13 rfl ?_
  obtain ⟨y1,hy1,hF,he1,b1,_,q1,cs2,hp1,hq1,rfl,hc2⟩:=s1.ix hF
  refine zxe hp1 hq1 he1 rfl (zc 0 (hc2.below h.below) rfl (zcB h hF qjq rfl fun r1 w2 h hF=>qa5 (qm rfl hF ?_ ?_)))<;>intro hF
  ·refine X0 5 rfl ?_
   obtain rfl:=qd hF;replace hF:=hK1
   exact ri h hF rfl
  exact X0 6 rfl (rK ⟨_,hF,rfl,h⟩ rfl)
 refine qy rfl ?_
 obtain rfl:=qd hF;replace hF:=hK1
 exact X0 4 rfl (ri h hF rfl)
def qbc (n:Nat) (s:(List Int)):Option Bool :=
 (qbq n s).bind fun r1 =>
 some (decide (r1 ≥ 0))
theorem qem {s:(List Int)} (ha1:GoT.R w (old w) s cs1) {r:Bool} (hF:qbc n s=some r):RetV Tryz.prog 113 [GoT.v (List Int) cs1,.func (.func 114) #[] #[]] w r:=by
 obtain ⟨p1,k1,rfl,s1⟩:=ha1
 exact zV 9 Tryz.func113 rfl fun h=>X0 8 rfl (zcI h hF (qeE ⟨_,_,rfl,(h.oldS s1)⟩) rfl fun r1 w1 h hF=>X0 3 rfl (rb h hF rfl))
def qbF (a_1:qg):Nat→(List Int)→Int→Option (Flow Bool ((List Int) × Int))
 | 0,_,_=>none
 | n+1,x3,i2 =>
  bif decide (i2<(a_1.Af.length:Int)) then
   (idx a_1.Af i2).bind fun y5 =>
   (
    bif (y5.Bl != 1) then
     bif (y5.Bl != 2) then some true else
     (qcH n a_1 y5.Bn).bind fun r2 =>
     some (!r2)
    else
     (qcH n a_1 y5.Bn).bind fun r3 =>
     some (!r3)).bind fun b7 =>
   bif b7 then some (.ret false) else
   bif (y5.Bl==1) then
    (idx x3 y5.Bn).bind fun y6 =>
    (idx x3 y5.Bn).bind fun _ =>
    qbF a_1 n (setS x3 y5.Bn (W64 (y6+1))) (W64 (i2+1))
   else
    qbF a_1 n x3 (W64 (i2+1))
  else
   some (.nxt (x3,i2))
def qcj (a_0:qj) (a_1:qg):Nat→(List Int)→Int→Option (Flow Bool ((List Int) × Int))
 | 0,_,_=>none
 | n+1,x2,i1 =>
  bif decide (i1<(a_1.Ab.length:Int)) then
   (idx a_1.Ab i1).bind fun y1 =>
   (qcU n a_1 a_0 y1).bind fun r1 =>
   bif (!r1) then some (.ret false) else
   (idx y1.Aj (W64 ((y1.Aj.length:Int)-1))).bind fun y2 =>
   (idx x2 y2).bind fun y3 =>
   (idx x2 y2).bind fun _ =>
   qcj a_0 a_1 n (setS x2 y2 (W64 (y3+1))) (W64 (i1+1))
  else
   some (.nxt (x2,i1))
def qgc (n:Nat) (a_0:qj) (a_1:qg):Option Bool :=
 (
  (qfE n a_0).bind fun r5 =>
  bif (!r5) then some true else
  (qdN n a_1).bind fun r6 =>
  some (!r6)).bind fun b1 =>
 bif b1 then some false else
 (mkS (a_1.Aj.length:Int) (0:Int)).bind fun x1 =>
 (qcj a_0 a_1 n x1 0).bind fun o=>match o with
 | .ret r=>some r
 | .nxt (x2,_) =>
  (qbF a_1 n x2 0).bind fun o=>match o with
  | .ret r=>some r
  | .nxt (x3,_) =>
   (qbc n x3).bind fun r4 =>
   some (!r4)
theorem qjZ {a_0:qj} {a_1:qg} (ha1:GoT.R w (old w) a_0 cs1) (ha2:GoT.R w (old w) a_1 cs2) {r:Bool} (hF:qgc n a_0 a_1=some r):RetV Tryz.prog 69 [GoT.v qj cs1,GoT.v qg cs2] w r:=by
 obtain ⟨p1,k1,rfl,s1⟩:=qaK ha1
 obtain ⟨p2,k2,p3,k3,p4,k4,rfl,s2,s3,s4⟩:=qZ ha2
 refine zV 84 Tryz.func69 rfl fun h=>zSR (qO h rfl rfl fun w1 bb1 h=>qO h rfl rfl fun w2 bb2 h=>X0 4 rfl ?_)
 obtain ⟨KF2,hKF2,o4,hF,hK4⟩:=bindE hF
 refine qa2 (fun e w'=>∃ (b1:Bool),KF2 b1=some r∧e=[(2,.pointer (some ⟨bb1,0,none⟩)),(3,.pointer (some ⟨bb2,0,none⟩)),(17,.bool b1)]∧SH w w' [Ch.box bb2 (qal a_1 p2 p3 p4 k2 k3 k4) 45,Ch.box bb1 [.slice p1 a_0.Ai.length k1] 41]) ?_ ?_
 ·refine X1 2 1 h rfl (zcB h hF (qjN (h.old ha1)) rfl fun r5 w17 h hF=>zp2 rfl (qi (t:=13) hF rfl ?_ ?_))<;>intro hF
  ·refine X0 5 rfl ?_
   obtain rfl:=qd hF
   exact rG ⟨_,hK4,rfl,h⟩ rfl
  refine X1 3 0 h rfl (zcB h hF (qhG (h.old ha2)) rfl fun r6 w18 h hF=>X0 4 rfl ?_)
  obtain rfl:=qd hF
  exact rG ⟨_,hK4,rfl,h⟩ rfl
 rintro e4 w19 ⟨b1,hF,rfl,h⟩
 subst hKF2
 refine qm rfl hF ?_ ?_<;>intro hF
 ·exact X0 4 rfl (rb h hF rfl)
 refine X1 6 0 h rfl ?_
 obtain ⟨x1,hx1,hF⟩:=qe hF
 obtain ⟨g1,g2,hx1⟩:=qgr hx1
 refine qhq qb Int h rfl rfl rfl rfl rfl rfl rfl rfl rfl g1 g2 hx1 rfl fun w3 S1 p5 h=>X1 10 1 h rfl ?_
 obtain ⟨o1,hF,hK1⟩:=qe hF
 refine qq (rL (fun m e w'=>∃ (x2:(List Int)) (i1:Int),qcj a_0 a_1 m x2 i1=some o1∧e=[(2,.pointer (some ⟨bb1,0,none⟩)),(3,.pointer (some ⟨bb2,0,none⟩)),(5,.slice p5 x1.length x1.length),(23,.slice p2 a_1.Ab.length k2),(24,.int .i64 (a_1.Ab.length:Int)),(25,.int .i64 i1)]∧SH w w' [Ch.own S1 (x2:List Int) [.slice p5 x1.length x1.length],Ch.box bb2 (qal a_1 p2 p3 p4 k2 k3 k4) 45,Ch.box bb1 [.slice p1 a_0.Ai.length k1] 41]) n ⟨_,_,hF,rfl,h⟩ rfl ?_)
 rintro m1 e1 w4 ⟨x2,i1,hF,rfl,h⟩
 rcases m1 with _|m1
 ·cases hF
 refine X0 5 rfl (qm rfl hF ?_ ?_)<;>intro hF
 ·refine zKSBSR ?_
  obtain ⟨y1,hy1,hF,he1,b2,_,q1,cs3,hp1,hq1,hr1,hc3⟩:=s2.ix hF
  obtain ⟨p6,k5,rfl,s5⟩:=qau hr1
  refine zxe hp1 hq1 he1 rfl (zc 0 (hc3.below h.below) rfl (qx qb h rfl rfl rfl fun w5 bb3 h=>zs 0 h rfl fun w6 h=>X3 7 2 3 0 h rfl (zcB h hF (qg9 (h.old ha2) (h.old ha1) (qji y1 (h.oldS s5))) rfl fun r1 w7 h hF=>X0 2 rfl (qm rfl hF ?_ ?_))))<;>intro hF
  ·refine X0 4 rfl ?_
   obtain rfl:=qd hF;replace hF:=hK1
   exact rb h hF rfl
  refine X2 9 0 0 h rfl ?_
  obtain ⟨y2,hy2,hF,he2,b3,_,q2,cs4,hp2,hq2,rfl,hc5⟩:=s5.ix hF
  refine zxe hp2 hq2 he2 rfl (zc 0 (hc5.below h.below) rfl ?_)
  obtain ⟨y3,hy3,hF,he3,b4,_,q3,cs5,hp3,hq3,rfl,hc6⟩:=(h.sl 1 rfl).1.ix hF
  refine zx hp3 hq3 ⟨he3.1,qN he3.2.1 (h.sl 1 rfl).2⟩ rfl (zc 0 hc6 rfl (zp1 rfl ?_))
  obtain ⟨y4,hy4,hF,he4,b5,_,q4,cs6,hp4,hq4,rfl,hc7⟩:=(h.sl 1 rfl).1.ix hF
  refine zx hp4 hq4 ⟨he4.1,qN he4.2.1 (h.sl 1 rfl).2⟩ rfl (qdF qb 1 0 (W64 (y3+1)) h rfl hy4 hp4 hq4 rfl hc7 rfl rfl rfl rfl rfl rfl rfl fun w8 h=>X0 6 rfl ?_)
  replace h:=h.pick [1,2,3] rfl
  exact rK ⟨_,_,hF,rfl,h⟩ rfl
 refine qy rfl ?_
 obtain rfl:=qd hF;replace hF:=hK1
 refine X1 8 1 h rfl ?_
 obtain ⟨o2,hF,hK2⟩:=qe hF
 refine qq ?_
 replace h:=h.pick [0,1] rfl
 refine rL (fun m e w'=>∃ (x3:(List Int)) (i2:Int),qbF a_1 m x3 i2=some o2∧e=[(3,.pointer (some ⟨bb2,0,none⟩)),(5,.slice p5 x1.length x1.length),(49,.slice p4 a_1.Af.length k4),(50,.int .i64 (a_1.Af.length:Int)),(51,.int .i64 i2)]∧SH w w' [Ch.own S1 (x3:List Int) [.slice p5 x1.length x1.length],Ch.box bb2 (qal a_1 p2 p3 p4 k2 k3 k4) 45]) n ⟨_,_,hF,rfl,h⟩ rfl ?_
 rintro m2 e2 w9 ⟨x3,i2,hF,rfl,h⟩
 rcases m2 with _|m2
 ·cases hF
 refine X0 5 rfl (qm rfl hF ?_ ?_)<;>intro hF
 ·refine zKSBSR ?_
  obtain ⟨y5,hy5,hF,he5,b6,_,q5,cs7,hp5,hq5,hr6,hc9⟩:=s4.ix hF
  obtain rfl:=qcp hr6
  refine zxe hp5 hq5 he5 rfl (zc 0 (hc9.below h.below) rfl (qx qb h rfl rfl rfl fun w10 bb4 h=>zs 0 h rfl fun w11 h=>zNSS ?_))
  obtain ⟨KF1,hKF1,o3,hF,hK3⟩:=bindE hF
  refine qa2 (fun e w'=>∃ (b7:Bool),KF1 b7=some o2∧e=[(3,.pointer (some ⟨bb2,0,none⟩)),(5,.slice p5 x1.length x1.length),(9,.pointer (some ⟨bb4,0,none⟩)),(49,.slice p4 a_1.Af.length k4),(50,.int .i64 (a_1.Af.length:Int)),(51,.int .i64 i2),(69,.bool b7)]∧SH w w' [Ch.box bb4 (qml y5) 172,Ch.own S1 (x3:List Int) [.slice p5 x1.length x1.length],Ch.box bb2 (qal a_1 p2 p3 p4 k2 k3 k4) 45]) ?_ ?_
  ·refine X1 5 0 h rfl (qi (t:=58) hF rfl ?_ ?_)<;>intro hF
   ·refine X1 8 0 h rfl (qi (t:=63) hF rfl ?_ ?_)<;>intro hF
    ·refine X0 7 rfl ?_
     obtain rfl:=qd hF
     exact rG ⟨_,hK3,rfl,h⟩ rfl
    refine X2 7 2 0 h rfl (zcB h hF (qeG (h.old ha2)) rfl fun r2 w13 h hF=>X0 4 rfl ?_)
    obtain rfl:=qd hF
    exact rG ⟨_,hK3,rfl,h⟩ rfl
   refine X2 12 2 0 h rfl (zcB h hF (qeG (h.old ha2)) rfl fun r3 w14 h hF=>X0 4 rfl ?_)
   obtain rfl:=qd hF
   exact rG ⟨_,hK3,rfl,h⟩ rfl
  rintro e3 w15 ⟨b7,hF,rfl,h⟩
  subst hKF1
  refine qm rfl hF ?_ ?_<;>intro hF
  ·refine X0 4 rfl ?_
   obtain rfl:=qd hF;replace hF:=hK2
   exact rb h hF rfl
  refine X1 7 0 h rfl (qm rfl hF ?_ ?_)<;>intro hF
  ·refine X1 4 0 h rfl ?_
   obtain ⟨y6,hy6,hF,he6,b8,_,q6,cs8,hp6,hq6,rfl,hc12⟩:=(h.sl 1 rfl).1.ix hF
   refine zx hp6 hq6 ⟨he6.1,qN he6.2.1 (h.sl 1 rfl).2⟩ rfl (zc 0 hc12 rfl (zp1 rfl ?_))
   obtain ⟨y7,hy7,hF,he7,b9,_,q7,cs9,hp7,hq7,rfl,hc13⟩:=(h.sl 1 rfl).1.ix hF
   refine zx hp7 hq7 ⟨he7.1,qN he7.2.1 (h.sl 1 rfl).2⟩ rfl (qdF qb 1 0 (W64 (y6+1)) h rfl hy7 hp7 hq7 rfl hc13 rfl rfl rfl rfl rfl rfl rfl fun w12 h=>X0 6 rfl ?_)
   replace h:=h.pick [1,2] rfl
   exact rK ⟨_,_,hF,rfl,h⟩ rfl
  refine X0 6 rfl ?_
  replace h:=h.pick [1,2] rfl
  exact rK ⟨_,_,hF,rfl,h⟩ rfl
 refine qy rfl ?_
 obtain rfl:=qd hF;replace hF:=hK2
 exact X0 3 rfl (zcB h hF (qem (h.own 0 rfl)) rfl fun r4 w16 h hF=>X0 3 rfl (rb h hF rfl))
def qa8 (i1:Int) (y1:qu):Nat→(List Tplace)→Int→Option ((List Tplace) × Int)
 | 0,_,_=>none
 | n+1,x2,i2 =>
  bif decide (i2<(y1.Aj.length:Int)) then
   (idx y1.Aj i2).bind fun y2 =>
   (appS x2 ([(⟨i1,i2,y2,(i2==(W64 ((y1.Aj.length:Int)-1)))⟩:Tplace)]:List Tplace)).bind fun x3 =>
   qa8 i1 y1 n x3 (W64 (i2+1))
  else
   some (x2,i2)
def qba (d:qg):Nat→(List Tplace)→Int→Option ((List Tplace) × Int)
 | 0,_,_=>none
 | n+1,x4,i3 =>
  bif decide (i3<(d.Af.length:Int)) then
   (idx d.Af i3).bind fun y3 =>
   (appS x4 ([(⟨(-1),i3,y3.Bn,(y3.Bl==1)⟩:Tplace)]:List Tplace)).bind fun x5 =>
   qba d n x5 (W64 (i3+1))
  else
   some (x4,i3)
def qa9 (d:qg):Nat→(List Tplace)→Int→Option ((List Tplace) × Int)
 | 0,_,_=>none
 | n+1,x1,i1 =>
  bif decide (i1<(d.Ab.length:Int)) then
   (idx d.Ab i1).bind fun y1 =>
   (qa8 i1 y1 n x1 0).bind fun o=>match o with
   | (x2,_) =>
    qa9 d n x2 (W64 (i1+1))
  else
   some (x1,i1)
def qbj (n:Nat) (d:qg):Option (List Tplace) :=
 (qa9 d n ([]:List Tplace) 0).bind fun o=>match o with
 | (x1,_) =>
  (qba d n x1 0).bind fun o=>match o with
  | (x4,_) =>
   some x4
theorem qci {d:qg} (ha1:GoT.R w (old w) d cs1) {r:(List Tplace)} (hF:qbj n d=some r):RetV Tryz.prog 70 [GoT.v qg cs1] w r:=by
 obtain ⟨p1,k1,p2,k2,p3,k3,rfl,s1,s2,s3⟩:=qZ ha1
 refine zV 61 Tryz.func70 rfl fun h=>zSR (qO h rfl rfl fun w1 bb1 h=>X1 14 0 h rfl ?_)
 replace h:=h.nil (α:=Tplace)
 obtain ⟨o1,hF,hK1⟩:=qe hF
 refine qq (rL (fun m e w'=>∃ (S1:Nat→Prop) (p4:Option Addr) (ln1:Nat) (k4:Nat) (x1:(List Tplace)) (i1:Int),qa9 d m x1 i1=some o1∧e=[(1,.pointer (some ⟨bb1,0,none⟩)),(3,.slice p4 ln1 k4),(11,.slice p1 d.Ab.length k1),(12,.int .i64 (d.Ab.length:Int)),(13,.int .i64 i1)]∧SH w w' [Ch.own S1 (x1:List Tplace) [.slice p4 ln1 k4],Ch.box bb1 (qal d p1 p2 p3 k1 k2 k3) 45]) n ⟨_,_,_,_,_,_,hF,rfl,h⟩ rfl ?_)
 rintro m1 e1 w2 ⟨S1,p4,ln1,k4,x1,i1,hF,rfl,h⟩
 obtain rfl:=(h.sl 0 rfl).2
 rcases m1 with _|m1
 ·cases hF
 refine X0 5 rfl (qm rfl hF ?_ ?_)<;>intro hF
 ·refine X0 6 rfl ?_
  obtain ⟨y1,hy1,hF,he1,b1,_,q1,cs2,hp1,hq1,hr1,hc2⟩:=s1.ix hF
  obtain ⟨p5,k5,rfl,s4⟩:=qau hr1
  refine zxe hp1 hq1 he1 rfl (zc 0 (hc2.below h.below) rfl (qx qb h rfl rfl rfl fun w3 bb2 h=>zp1 rfl (zs 0 h rfl fun w4 h=>X1 8 0 h rfl ?_)))
  obtain ⟨o2,hF,hK2⟩:=qe hF
  refine qq (rL (fun m e w'=>∃ (S2:Nat→Prop) (p6:Option Addr) (ln2:Nat) (k6:Nat) (x2:(List Tplace)) (i2:Int),qa8 i1 y1 m x2 i2=some o2∧e=[(1,.pointer (some ⟨bb1,0,none⟩)),(3,.slice p6 ln2 k6),(4,.int .i64 i1),(5,.pointer (some ⟨bb2,0,none⟩)),(11,.slice p1 d.Ab.length k1),(12,.int .i64 (d.Ab.length:Int)),(13,.int .i64 i1),(19,.slice p5 y1.Aj.length k5),(20,.int .i64 (y1.Aj.length:Int)),(21,.int .i64 i2)]∧SH w w' [Ch.box bb2 (qgl y1 p5 k5) 121,Ch.own S2 (x2:List Tplace) [.slice p6 ln2 k6],Ch.box bb1 (qal d p1 p2 p3 k1 k2 k3) 45]) m1 ⟨_,_,_,_,_,_,hF,rfl,h⟩ rfl ?_)
  rintro m2 e2 w5 ⟨S2,p6,ln2,k6,x2,i2,hF,rfl,h⟩
  obtain rfl:=(h.sl 1 rfl).2
  rcases m2 with _|m2
  ·cases hF
  refine X0 5 rfl (qm rfl hF ?_ ?_)<;>intro hF
  ·refine X0 6 rfl ?_
   obtain ⟨y2,hy2,hF,he2,b2,_,q2,cs3,hp2,hq2,rfl,hc4⟩:=s4.ix hF
   refine zxe hp2 hq2 he2 rfl (zc 0 (hc4.below h.below) rfl (X1 14 0 h rfl (r_v (qah qb [0,1,2,3] [.tmp 27,.tmp 28,.tmp 29,.tmp 35] rfl rfl rfl rfl rfl rfl rfl rfl) rfl (ql qb [.tmp 36] _ ([(⟨i1,i2,y2,(i2==(W64 ((y1.Aj.length:Int)-1)))⟩:Tplace)]:List Tplace) h rfl rfl rfl rfl rfl rfl rfl rfl rfl ⟨(qeF (⟨i1,i2,y2,(i2==(W64 ((y1.Aj.length:Int)-1)))⟩:Tplace)),trivial⟩ rfl fun w6 p7 S3 h=>?_))))
   obtain ⟨x3,hx1,hF⟩:=qe hF
   obtain ⟨g1,hx1⟩:=qw hx1
   refine qak qb 2 h rfl (h.sl 0 rfl).1 (h.sl 0 rfl).2 rfl rfl rfl rfl rfl rfl rfl rfl rfl g1 hx1 rfl fun w7 p8 k7 S4 h=>X0 7 rfl ?_
   replace h:=h.pick [1,2,3] rfl
   exact rK ⟨_,_,_,_,_,_,hF,rfl,h⟩ rfl
  refine qy rfl ?_
  obtain rfl:=qd hF;replace hF:=hK2
  refine X0 5 rfl ?_
  replace h:=h.pick [1,2] rfl
  exact rK ⟨_,_,_,_,_,_,hF,rfl,h⟩ rfl
 refine qy rfl ?_
 obtain rfl:=qd hF;replace hF:=hK1
 refine X1 8 1 h rfl ?_
 obtain ⟨o3,hF,hK3⟩:=qe hF
 refine qq ?_
 replace h:=h.pick [0] rfl
 refine rL (fun m e w'=>∃ (S5:Nat→Prop) (p9:Option Addr) (ln3:Nat) (k8:Nat) (x4:(List Tplace)) (i3:Int),qba d m x4 i3=some o3∧e=[(3,.slice p9 ln3 k8),(42,.slice p3 d.Af.length k3),(43,.int .i64 (d.Af.length:Int)),(44,.int .i64 i3)]∧SH w w' [Ch.own S5 (x4:List Tplace) [.slice p9 ln3 k8]]) n ⟨_,_,_,_,_,_,hF,rfl,h⟩ rfl ?_
 rintro m3 e3 w8 ⟨S5,p9,ln3,k8,x4,i3,hF,rfl,h⟩
 obtain rfl:=(h.sl 0 rfl).2
 rcases m3 with _|m3
 ·cases hF
 refine X0 5 rfl (qm rfl hF ?_ ?_)<;>intro hF
 ·refine X0 6 rfl ?_
  obtain ⟨y3,hy3,hF,he3,b3,_,q3,cs4,hp3,hq3,hr3,hc6⟩:=s3.ix hF
  obtain rfl:=qcp hr3
  refine zxe hp3 hq3 he3 rfl (zc 0 (hc6.below h.below) rfl (qx qb h rfl rfl rfl fun w9 bb3 h=>zp1 rfl (zs 0 h rfl fun w10 h=>X2 9 0 0 h rfl (r_v (qah qb [0,1,2,3] [.const (.int .i64 (-1)),.tmp 50,.tmp 52,.tmp 55] rfl rfl rfl rfl rfl rfl rfl rfl) rfl (ql qb [.tmp 56] _ ([(⟨(-1),i3,y3.Bn,(y3.Bl==1)⟩:Tplace)]:List Tplace) h rfl rfl rfl rfl rfl rfl rfl rfl rfl ⟨(qeF (⟨(-1),i3,y3.Bn,(y3.Bl==1)⟩:Tplace)),trivial⟩ rfl fun w11 p10 S6 h=>?_)))))
  obtain ⟨x5,hx2,hF⟩:=qe hF
  obtain ⟨g2,hx2⟩:=qw hx2
  refine qak qb 2 h rfl (h.sl 0 rfl).1 (h.sl 0 rfl).2 rfl rfl rfl rfl rfl rfl rfl rfl rfl g2 hx2 rfl fun w12 p11 k9 S7 h=>X0 7 rfl ?_
  replace h:=h.pick [2] rfl
  exact rK ⟨_,_,_,_,_,_,hF,rfl,h⟩ rfl
 refine qy rfl ?_
 obtain rfl:=qd hF;replace hF:=hK3
 refine X0 5 rfl ?_
 obtain rfl:=qd hF
 exact rO 0 h rfl ⟨rfl,trivial⟩
def qaQ (a_w:qW):Nat→Int→Option (Flow Bool Int)
 | 0,_=>none
 | n+1,i1 =>
  bif decide (i1<(a_w.Ak.length:Int)) then
   (idx a_w.Ak i1).bind fun y1 =>
   bif (i1==0) then
    bif (y1 != (-1)) then some (.ret false) else
    (idx a_w.Bh 0).bind fun y2 =>
    bif (y2 != 0) then some (.ret false) else
    bif decide (i1 > 0) then
     (qaA n y1 0 (W64 (i1-1))).bind fun r1 =>
     bif (!r1) then some (.ret false) else
     qaQ a_w n (W64 (i1+1))
    else
     qaQ a_w n (W64 (i1+1))
   else
    bif decide (i1 > 0) then
     (qaA n y1 0 (W64 (i1-1))).bind fun r2 =>
     bif (!r2) then some (.ret false) else
     qaQ a_w n (W64 (i1+1))
    else
     qaQ a_w n (W64 (i1+1))
  else
   some (.nxt i1)
def qe8 (n:Nat) (a_w:qW):Option Bool :=
 (qaQ a_w n 0).bind fun o=>match o with
 | .ret r=>some r
 | .nxt _ =>
  some true
theorem qi8 {a_w:qW} (ha1:GoT.R w (old w) a_w cs1) {r:Bool} (hF:qe8 n a_w=some r):RetV Tryz.prog 116 [GoT.v qW cs1] w r:=by
 obtain ⟨p1,k1,p2,k2,p3,k3,p4,k4,rfl,s1,s2,s3,s4⟩:=qbR ha1
 refine zV 38 Tryz.func116 rfl fun h=>zSR (qO h rfl rfl fun w1 bb1 h=>X1 10 0 h rfl ?_)
 obtain ⟨o1,hF,hK1⟩:=qe hF
 refine qq (rL (fun m e w'=>∃ (i1:Int),qaQ a_w m i1=some o1∧e=[(1,.pointer (some ⟨bb1,0,none⟩)),(6,.slice p1 a_w.Ak.length k1),(7,.int .i64 (a_w.Ak.length:Int)),(8,.int .i64 i1)]∧SH w w' [Ch.box bb1 (qfq a_w p1 p2 p3 p4 k1 k2 k3 k4) 109]) n ⟨_,hF,rfl,h⟩ rfl ?_)
 rintro m1 e1 w2 ⟨i1,hF,rfl,h⟩
 rcases m1 with _|m1
 ·cases hF
 refine X0 5 rfl (qm rfl hF ?_ ?_)<;>intro hF
 ·refine X0 6 rfl ?_
  obtain ⟨y1,hy1,hF,he1,b1,_,q1,cs2,hp1,hq1,rfl,hc2⟩:=s1.ix hF
  refine zxe hp1 hq1 he1 rfl (zc 0 (hc2.below h.below) rfl (X0 8 rfl (qi (t:=15) hF rfl ?_ ?_)))<;>intro hF
  ·refine X0 6 rfl (qi (t:=18) hF rfl ?_ ?_)<;>intro hF
   ·refine X0 20 rfl (qdP rfl rfl (X0 4 rfl ?_))
    obtain rfl:=qd hF;replace hF:=hK1
    exact rb h hF rfl
   refine X1 5 0 h rfl ?_
   obtain ⟨y2,hy2,hF,he2,b2,_,q2,cs3,hp2,hq2,rfl,hc3⟩:=s2.ix hF
   refine zxe hp2 hq2 he2 rfl (X0 1 rfl (zc 0 (hc3.below h.below) rfl (X0 6 rfl (qi (t:=26) hF rfl ?_ ?_))))<;>intro hF
   ·refine X0 11 rfl (qdP rfl rfl (X0 4 rfl ?_))
    obtain rfl:=qd hF;replace hF:=hK1
    exact rb h hF rfl
   refine X0 6 rfl (qi (t:=29) hF rfl ?_ ?_)<;>intro hF
   ·refine X0 7 rfl (zcB h hF qao rfl fun r1 w3 h hF=>X0 6 rfl (qm rfl hF ?_ ?_))<;>intro hF
    ·refine X0 4 rfl ?_
     obtain rfl:=qd hF;replace hF:=hK1
     exact rb h hF rfl
    exact X0 6 rfl (rK ⟨_,hF,rfl,h⟩ rfl)
   exact X0 9 rfl (qel rfl rfl (X0 6 rfl (rK ⟨_,hF,rfl,h⟩ rfl)))
  refine X0 17 rfl (qi (t:=29) hF rfl ?_ ?_)<;>intro hF
  ·refine X0 7 rfl (zcB h hF qao rfl fun r2 w4 h hF=>X0 6 rfl (qm rfl hF ?_ ?_))<;>intro hF
   ·refine X0 4 rfl ?_
    obtain rfl:=qd hF;replace hF:=hK1
    exact rb h hF rfl
   exact X0 6 rfl (rK ⟨_,hF,rfl,h⟩ rfl)
  exact X0 9 rfl (qel rfl rfl (X0 6 rfl (rK ⟨_,hF,rfl,h⟩ rfl)))
 refine qy rfl ?_
 obtain rfl:=qd hF;replace hF:=hK1
 exact X0 4 rfl (rb h hF rfl)
def qhh (n:Nat) (a_w:qW) (sinks:Int):Option Bool :=
 (qaW n a_w.Ak).bind fun r1 =>
 (qaA n r1 1 8).bind fun r2 =>
 bif r2 then
  (qaW n a_w.Bh).bind fun r3 =>
  bif (r3==r1) then
   (qaW n a_w.Be).bind fun r4 =>
   bif (r4==r1) then
    (qe8 n a_w).bind fun r5 =>
    bif r5 then
     (qbl n a_w.Bh 0 1000).bind fun r6 =>
     bif r6 then
      (qbl n a_w.Be 0 500).bind fun r7 =>
      bif r7 then
       (qaW n a_w.Ay).bind fun r8 =>
       bif (r8==sinks) then
        (qbl n a_w.Ay 0 (W64 (r1-1))).bind fun r9 =>
        some r9
       else
        some false
      else
       some false
     else
      some false
    else
     some false
   else
    some false
  else
   some false
 else
  some false
theorem qk8 {a_w:qW} {sinks:Int} (ha1:GoT.R w (old w) a_w cs1) {r:Bool} (hF:qhh n a_w sinks=some r):RetV Tryz.prog 71 [GoT.v qW cs1,.int .i64 sinks] w r:=by
 obtain ⟨p1,k1,p2,k2,p3,k3,p4,k4,rfl,s1,s2,s3,s4⟩:=qbR ha1
 refine zV 53 Tryz.func71 rfl fun h=>zSR (qO h rfl rfl fun w1 bb1 h=>X1 6 0 h rfl (zcI h hF (qbB ⟨_,_,rfl,(h.oldS s1)⟩) rfl fun r1 w2 h hF=>X0 5 rfl (zcB h hF qao rfl fun r2 w3 h hF=>zp1 rfl (qi (t:=11) hF rfl ?_ ?_))))<;>intro hF
 ·refine X1 5 0 h rfl (zcI h hF (qbB ⟨_,_,rfl,(h.oldS s2)⟩) rfl fun r3 w4 h hF=>X0 6 rfl (qi (t:=18) hF rfl ?_ ?_))<;>intro hF
  ·refine X1 5 0 h rfl (zcI h hF (qbB ⟨_,_,rfl,(h.oldS s3)⟩) rfl fun r4 w5 h hF=>X0 6 rfl (qi (t:=25) hF rfl ?_ ?_))<;>intro hF
   ·refine X1 3 0 h rfl (zcB h hF (qi8 (h.old ha1)) rfl fun r5 w6 h hF=>zp2 rfl (qi (t:=29) hF rfl ?_ ?_))<;>intro hF
    ·refine X1 5 0 h rfl (zcB h hF (qbV ⟨_,_,rfl,(h.oldS s2)⟩) rfl fun r6 w7 h hF=>zp2 rfl (qi (t:=34) hF rfl ?_ ?_))<;>intro hF
     ·refine X1 5 0 h rfl (zcB h hF (qbV ⟨_,_,rfl,(h.oldS s3)⟩) rfl fun r7 w8 h hF=>zp2 rfl (qi (t:=39) hF rfl ?_ ?_))<;>intro hF
      ·refine X1 5 0 h rfl (zcI h hF (qbB ⟨_,_,rfl,(h.oldS s4)⟩) rfl fun r8 w9 h hF=>X0 6 rfl (qi (t:=46) hF rfl ?_ ?_))<;>intro hF
       ·exact X1 9 0 h rfl (zcB h hF (qbV ⟨_,_,rfl,(h.oldS s4)⟩) rfl fun r9 w10 h hF=>X0 3 rfl (rb h hF rfl))
       exact X0 8 rfl (rb h hF rfl)
      exact X0 15 rfl (rb h hF rfl)
     exact X0 20 rfl (rb h hF rfl)
    exact X0 25 rfl (rb h hF rfl)
   exact X0 29 rfl (rb h hF rfl)
  exact X0 36 rfl (rb h hF rfl)
 exact X0 43 rfl (rb h hF rfl)
def qdy (b:qc) (x2:(List Int)):Nat→Int→Option (Flow Bool Int)
 | 0,_=>none
 | n+1,i2 =>
  bif decide (i2<(b.Ah.length:Int)) then
   (idx b.Ah i2).bind fun y4 =>
   (idx x2 i2).bind fun y5 =>
   (qhh n y4 y5).bind fun r2 =>
   bif (!r2) then some (.ret false) else
   qdy b x2 n (W64 (i2+1))
  else
   some (.nxt i2)
def qb9 (r1:(List Tplace)):Nat→(List Int)→Int→Option ((List Int) × Int)
 | 0,_,_=>none
 | n+1,x2,i1 =>
  bif decide (i1<(r1.length:Int)) then
   (idx r1 i1).bind fun y1 =>
   bif (!y1.drives) then
    (idx x2 y1.net).bind fun y2 =>
    (idx x2 y1.net).bind fun _ =>
    qb9 r1 n (setS x2 y1.net (W64 (y2+1))) (W64 (i1+1))
   else
    qb9 r1 n x2 (W64 (i1+1))
  else
   some (x2,i1)
def qff (n:Nat) (b:qc):Option Bool :=
 (
  (qgc n (⟨b.Ac.Ai⟩:qj) (⟨b.Aa.Ab,b.Aa.Aj,b.Aa.Af⟩:qg)).bind fun r3 =>
  bif (!r3) then some true else
  some ((b.Ah.length:Int) != (b.Aa.Aj.length:Int))).bind fun b1 =>
 bif b1 then some false else
 (mkS (b.Ah.length:Int) (0:Int)).bind fun x1 =>
 (qbj n (⟨b.Aa.Ab,b.Aa.Aj,b.Aa.Af⟩:qg)).bind fun r1 =>
 (qb9 r1 n x1 0).bind fun o=>match o with
 | (x2,_) =>
  (qdy b x2 n 0).bind fun o=>match o with
  | .ret r=>some r
  | .nxt _ =>
   some true
theorem qgw {b:qc} (ha1:GoT.R w (old w) b cs1) {r:Bool} (hF:qff n b=some r):RetV Tryz.prog 36 [GoT.v qc cs1] w r:=by
 obtain ⟨p1,k1,p2,k2,p3,k3,p4,k4,p5,k5,rfl,s1,s2,s3,s4,s5⟩:=qT ha1
 refine zV 63 Tryz.func36 rfl fun h=>zSR (qO h rfl rfl fun w1 bb1 h=>X0 4 rfl ?_)
 obtain ⟨KF1,hKF1,o3,hF,hK3⟩:=bindE hF
 refine qa2 (fun e w'=>∃ (b1:Bool),KF1 b1=some r∧e=[(1,.pointer (some ⟨bb1,0,none⟩)),(23,.bool b1)]∧SH w w' [Ch.box bb1 (qz b p1 p2 p3 p4 p5 k1 k2 k3 k4 k5) 48]) ?_ ?_
 ·refine X2 5 0 0 h rfl (zcB h hF (qjZ (qbw _ (h.oldS s1)) (qat _ (h.oldS s2) (h.oldS s3) (h.oldS s4))) rfl fun r3 w12 h hF=>zp2 rfl (qi (t:=14) hF rfl ?_ ?_))<;>intro hF
  ·refine X0 10 rfl ?_
   obtain rfl:=qd hF
   exact rG ⟨_,hK3,rfl,h⟩ rfl
  refine X2 18 0 0 h rfl ?_
  obtain rfl:=qd hF
  exact rG ⟨_,hK3,rfl,h⟩ rfl
 rintro e3 w13 ⟨b1,hF,rfl,h⟩
 subst hKF1
 refine qm rfl hF ?_ ?_<;>intro hF
 ·exact X0 4 rfl (rb h hF rfl)
 refine X1 6 0 h rfl ?_
 obtain ⟨x1,hx1,hF⟩:=qe hF
 obtain ⟨g1,g2,hx1⟩:=qgr hx1
 refine qhq qb Int h rfl rfl rfl rfl rfl rfl rfl rfl rfl g1 g2 hx1 rfl fun w2 S1 p6 h=>X1 7 1 h rfl (zcL h hF (qci (qat _ (h.oldS s2) (h.oldS s3) (h.oldS s4))) rfl fun r1 w3 S2 p7 k6 h hF=>X0 3 rfl ?_)
 obtain ⟨o1,hF,hK1⟩:=qe hF
 refine qq (rL (fun m e w'=>∃ (x2:(List Int)) (i1:Int),qb9 r1 m x2 i1=some o1∧e=[(1,.pointer (some ⟨bb1,0,none⟩)),(3,.slice p6 x1.length x1.length),(30,.slice p7 r1.length k6),(31,.int .i64 (r1.length:Int)),(32,.int .i64 i1)]∧SH w w' [Ch.own S2 (r1:List Tplace) [.slice p7 r1.length k6],Ch.own S1 (x2:List Int) [.slice p6 x1.length x1.length],Ch.box bb1 (qz b p1 p2 p3 p4 p5 k1 k2 k3 k4 k5) 48]) n ⟨_,_,hF,rfl,h⟩ rfl ?_)
 rintro m1 e1 w4 ⟨x2,i1,hF,rfl,h⟩
 rcases m1 with _|m1
 ·cases hF
 refine X0 5 rfl (qm rfl hF ?_ ?_)<;>intro hF
 ·refine zKSBSR ?_
  obtain ⟨y1,hy1,hF,he1,b2,_,q1,cs2,hp1,hq1,hr2,hc3⟩:=(h.sl 0 rfl).1.ix hF
  obtain rfl:=qdC hr2
  refine zx hp1 hq1 ⟨he1.1,qN he1.2.1 (h.sl 0 rfl).2⟩ rfl (zc 0 hc3 rfl (qx qb h rfl rfl rfl fun w5 bb2 h=>zs 0 h rfl fun w6 h=>X1 7 0 h rfl (qm rfl hF ?_ ?_)))<;>intro hF
  ·refine X1 4 0 h rfl ?_
   obtain ⟨y2,hy2,hF,he2,b3,_,q2,cs3,hp2,hq2,rfl,hc5⟩:=(h.sl 2 rfl).1.ix hF
   refine zx hp2 hq2 ⟨he2.1,qN he2.2.1 (h.sl 2 rfl).2⟩ rfl (zc 0 hc5 rfl (zp1 rfl ?_))
   obtain ⟨y3,hy3,hF,he3,b4,_,q3,cs4,hp3,hq3,rfl,hc6⟩:=(h.sl 2 rfl).1.ix hF
   refine zx hp3 hq3 ⟨he3.1,qN he3.2.1 (h.sl 2 rfl).2⟩ rfl (qdF qb 2 0 (W64 (y2+1)) h rfl hy3 hp3 hq3 rfl hc6 rfl rfl rfl rfl rfl rfl rfl fun w7 h=>X0 6 rfl ?_)
   replace h:=h.pick [1,2,3] rfl
   exact rK ⟨_,_,hF,rfl,h⟩ rfl
  refine X0 6 rfl ?_
  replace h:=h.pick [1,2,3] rfl
  exact rK ⟨_,_,hF,rfl,h⟩ rfl
 refine qy rfl ?_
 obtain rfl:=qd hF;replace hF:=hK1
 refine X1 8 2 h rfl ?_
 obtain ⟨o2,hF,hK2⟩:=qe hF
 refine qq ?_
 replace h:=h.pick [1] rfl
 refine rL (fun m e w'=>∃ (i2:Int),qdy b x2 m i2=some o2∧e=[(3,.slice p6 x1.length x1.length),(48,.slice p5 b.Ah.length k5),(49,.int .i64 (b.Ah.length:Int)),(50,.int .i64 i2)]∧SH w w' [Ch.own S1 (x2:List Int) [.slice p6 x1.length x1.length]]) n ⟨_,hF,rfl,h⟩ rfl ?_
 rintro m2 e2 w8 ⟨i2,hF,rfl,h⟩
 rcases m2 with _|m2
 ·cases hF
 refine X0 5 rfl (qm rfl hF ?_ ?_)<;>intro hF
 ·refine X0 6 rfl ?_
  obtain ⟨y4,hy4,hF,he4,b5,_,q4,cs5,hp4,hq4,hr5,hc8⟩:=s5.ix hF
  obtain ⟨p8,k7,p9,k8,p10,k9,p11,k10,rfl,s6,s7,s8,s9⟩:=qbR hr5
  refine zxe hp4 hq4 he4 rfl (zc 0 (hc8.below h.below) rfl (qx qb h rfl rfl rfl fun w9 bb3 h=>zp1 rfl (zs 0 h rfl fun w10 h=>zNS (rD (Y1 1 0 h rfl ?_)))))
  refine zd2 rfl ?_
  obtain ⟨y5,hy5,hF,he5,b6,_,q5,cs6,hp5,hq5,rfl,hc9⟩:=(h.sl 1 rfl).1.ix hF
  refine zdx hp5 hq5 ⟨he5.1,qN he5.2.1 (h.sl 1 rfl).2⟩ rfl (zdc 0 hc9 rfl ?_)
  obtain ⟨r2,hr7,hF⟩:=qe hF
  refine qcg r2 (vsB _) (cB 71 rfl) (fun _ hb=>qk8 (qlR y4 ((h.ext hb).oldS s6) ((h.ext hb).oldS s7) ((h.ext hb).oldS s8) ((h.ext hb).oldS s9)) hr7) rfl rfl rfl rfl (zd1 rfl (dN h fun w11 h=>qm rfl hF ?_ ?_))<;>intro hF
  ·refine X0 4 rfl ?_
   obtain rfl:=qd hF;replace hF:=hK2
   exact rb h hF rfl
  refine X0 6 rfl ?_
  replace h:=h.pick [1] rfl
  exact rK ⟨_,hF,rfl,h⟩ rfl
 refine qy rfl ?_
 obtain rfl:=qd hF;replace hF:=hK2
 exact X0 4 rfl (rb h hF rfl)
end Go.Fw


namespace Go.Fw
open Go Go.Proofs
open Go.RowKit (Below)
set_option maxRecDepth 100000
set_option maxHeartbeats 6400000
variable {n:Nat} {w:World} {cs1 cs2 cs3 cs4 cs5 cs6 cs7 cs8 cs9:List Value}
def qaB (n:Nat) (b:qc):Option Int :=
 (qbS n (⟨b.Aa.Ab,b.Aa.Aj,b.Aa.Af⟩:qg)).bind fun r1 =>
 some (r1.length:Int)
theorem qbm {b:qc} (ha1:GoT.R w (old w) b cs1) {r:Int} (hF:qaB n b=some r):RetV Tryz.prog 91 [GoT.v qc cs1] w r:=by
 obtain ⟨p1,k1,p2,k2,p3,k3,p4,k4,p5,k5,rfl,s1,s2,s3,s4,s5⟩:=qT ha1
 exact zV 7 Tryz.func91 rfl fun h=>zSR (qO h rfl rfl fun w1 bb1 h=>X1 6 0 h rfl (zcL h hF (qdK (qat _ (h.oldS s2) (h.oldS s3) (h.oldS s4))) rfl fun r1 w2 S1 p6 k6 h hF=>X0 3 rfl (ri h hF rfl)))
def qbr (b:qc) (list:(List Int)) (sorted:Bool):Nat→Int→Option (Flow Bool Int)
 | 0,_=>none
 | n+1,i1 =>
  bif decide (i1<(list.length:Int)) then
   (idx list i1).bind fun y1 =>
   (qaB n b).bind fun r1 =>
   (qam n y1 0 (W64 (r1-1))).bind fun r2 =>
   bif (!r2) then some (.ret false) else
   bif sorted then
    bif decide (i1 > 0) then
     (idx list (W64 (i1-1))).bind fun y2 =>
     (idx list i1).bind fun y3 =>
     bif decide (y2 ≥ y3) then some (.ret false) else
     qbr b list sorted n (W64 (i1+1))
    else
     qbr b list sorted n (W64 (i1+1))
   else
    qbr b list sorted n (W64 (i1+1))
  else
   some (.nxt i1)
def qd9 (n:Nat) (b:qc) (list:(List Int)) (sorted:Bool):Option Bool :=
 (qbr b list sorted n 0).bind fun o=>match o with
 | .ret r=>some r
 | .nxt _ =>
  some (decide ((list.length:Int)≤4))
theorem qfH {b:qc} {list:(List Int)} {sorted:Bool} (ha1:GoT.R w (old w) b cs1) (ha2:GoT.R w (old w) list cs2) {r:Bool} (hF:qd9 n b list sorted=some r):RetV Tryz.prog 46 [GoT.v qc cs1,GoT.v (List Int) cs2,.bool sorted] w r:=by
 obtain ⟨p1,k1,p2,k2,p3,k3,p4,k4,p5,k5,rfl,s1,s2,s3,s4,s5⟩:=qT ha1
 obtain ⟨p6,k6,rfl,s6⟩:=ha2
 refine zV 45 Tryz.func46 rfl fun h=>zSR (qO h rfl rfl fun w1 bb1 h=>X0 7 rfl ?_)
 obtain ⟨o1,hF,hK1⟩:=qe hF
 refine qq (rL (fun m e w'=>∃ (i1:Int),qbr b list sorted m i1=some o1∧e=[(1,.slice p6 list.length k6),(2,.bool sorted),(3,.pointer (some ⟨bb1,0,none⟩)),(7,.int .i64 i1)]∧SH w w' [Ch.box bb1 (qz b p1 p2 p3 p4 p5 k1 k2 k3 k4 k5) 48]) n ⟨_,hF,rfl,h⟩ rfl ?_)
 rintro m1 e1 w2 ⟨i1,hF,rfl,h⟩
 rcases m1 with _|m1
 ·cases hF
 refine X0 8 rfl (qm rfl hF ?_ ?_)<;>intro hF
 ·refine X0 4 rfl (rD (zd2 rfl ?_))
  obtain ⟨y1,hy1,hF,he1,b1,_,q1,cs3,hp1,hq1,rfl,hc2⟩:=s6.ix hF
  refine zdxe hp1 hq1 he1 rfl (zdc 0 (hc2.below h.below) rfl (Y1 1 0 h rfl ?_))
  obtain ⟨r1,hr2,hF⟩:=qe hF
  refine qcg r1 (vsI _) (cB 91 rfl) (fun _ hb=>qbm ((h.ext hb).old ha1) hr2) rfl rfl rfl rfl (zd1 rfl ?_)
  obtain ⟨r2,hr3,hF⟩:=qe hF
  refine qcg r2 (vsB _) (cB 47 rfl) (fun _ hb=>qU  hr3) rfl rfl rfl rfl (zd2 rfl (qaD (t:=23) hF rfl ?_ ?_))<;>intro hF
  ·refine Y0 18 rfl (dN h fun w3 h=>qdP rfl rfl (X0 4 rfl ?_))
   obtain rfl:=qd hF;replace hF:=hK1
   exact rb h hF rfl
  refine Y0 4 rfl (qaD (t:=25) hF rfl ?_ ?_)<;>intro hF
  ·refine Y0 8 rfl (qaD (t:=29) hF rfl ?_ ?_)<;>intro hF
   ·refine Y0 7 rfl ?_
    obtain ⟨y2,hy2,hF,he2,b2,_,q2,cs4,hp2,hq2,rfl,hc3⟩:=s6.ix hF
    refine zdxe hp2 hq2 he2 rfl (Y0 1 rfl (zdc 0 (hc3.below h.below) rfl (Y0 5 rfl ?_)))
    obtain ⟨y3,hy3,hF,he3,b3,_,q3,cs5,hp3,hq3,rfl,hc4⟩:=s6.ix hF
    refine zdxe hp3 hq3 he3 rfl (Y0 1 rfl (zdc 0 (hc4.below h.below) rfl (Y0 5 rfl (dN h fun w4 h=>qm rfl hF ?_ ?_))))<;>intro hF
    ·refine X0 4 rfl ?_
     obtain rfl:=qd hF;replace hF:=hK1
     exact rb h hF rfl
    exact X0 7 rfl (rK ⟨_,hF,rfl,h⟩ rfl)
   exact Y0 13 rfl (dN h fun w5 h=>qel rfl rfl (X0 7 rfl (rK ⟨_,hF,rfl,h⟩ rfl)))
  exact Y0 19 rfl (dN h fun w6 h=>qel rfl rfl (X0 7 rfl (rK ⟨_,hF,rfl,h⟩ rfl)))
 refine qy rfl ?_
 obtain rfl:=qd hF;replace hF:=hK1
 exact X0 7 rfl (rb h hF rfl)
def qea (n:Nat) (b:qc) (a_e:qa):Option Bool :=
 (
  (qfY n b).bind fun r4 =>
  bif (!r4) then some true else
  (qd9 n b a_e.Au true).bind fun r5 =>
  bif (!r5) then some true else
  (qd9 n b a_e.Ap false).bind fun r6 =>
  bif (!r6) then some true else
  (qd9 n b a_e.To true).bind fun r7 =>
  some (!r7)).bind fun b1 =>
 bif b1 then some false else
 bif (a_e.Am==1) then some (a_e.Az==0) else
 bif (a_e.Am==2) then
  (qam n a_e.Az 1 10).bind fun r1 =>
  some r1
 else
  bif (a_e.Am==3) then
   bif (a_e.Am==3) then
    (qam n a_e.Az 0 1000000000).bind fun r2 =>
    some r2
   else
    some false
  else
   bif (a_e.Am==4) then
    (qam n a_e.Az 0 1000000000).bind fun r3 =>
    some r3
   else
    some false
theorem qjd {b:qc} {a_e:qa} (ha1:GoT.R w (old w) b cs1) (ha2:GoT.R w (old w) a_e cs2) {r:Bool} (hF:qea n b a_e=some r):RetV Tryz.prog 16 [GoT.v qc cs1,GoT.v qa cs2] w r:=by
 obtain ⟨p1,k1,p2,k2,p3,k3,p4,k4,p5,k5,rfl,s1,s2,s3,s4,s5⟩:=qT ha1
 obtain ⟨p6,k6,p7,k7,p8,k8,rfl,s6,s7,s8⟩:=qX ha2
 refine zV 47 Tryz.func16 rfl fun h=>zSR (qO h rfl rfl fun w1 bb1 h=>qO h rfl rfl fun w2 bb2 h=>X0 4 rfl ?_)
 obtain ⟨KF1,hKF1,o1,hF,hK1⟩:=bindE hF
 refine qa2 (fun e w'=>∃ (b1:Bool),KF1 b1=some r∧e=[(3,.pointer (some ⟨bb2,0,none⟩)),(28,.bool b1)]∧SH w w' [Ch.box bb2 (qbo a_e p6 p7 p8 k6 k7 k8) 50]) ?_ ?_
 ·refine X1 2 1 h rfl (zcB h hF (qii (h.old ha1)) rfl fun r4 w6 h hF=>zp2 rfl (qi (t:=8) hF rfl ?_ ?_))<;>intro hF
  ·refine X0 21 rfl ?_
   replace h:=h.pick [0] rfl
   obtain rfl:=qd hF
   exact rG ⟨_,hK1,rfl,h⟩ rfl
  refine X2 7 1 0 h rfl (zcB h hF (qfH (h.old ha1) ⟨_,_,rfl,(h.oldS s6)⟩) rfl fun r5 w7 h hF=>X0 4 rfl (qi (t:=15) hF rfl ?_ ?_))<;>intro hF
  ·refine X0 14 rfl ?_
   replace h:=h.pick [0] rfl
   obtain rfl:=qd hF
   exact rG ⟨_,hK1,rfl,h⟩ rfl
  refine X2 7 1 0 h rfl (zcB h hF (qfH (h.old ha1) ⟨_,_,rfl,(h.oldS s7)⟩) rfl fun r6 w8 h hF=>X0 4 rfl (qi (t:=22) hF rfl ?_ ?_))<;>intro hF
  ·refine X0 7 rfl ?_
   replace h:=h.pick [0] rfl
   obtain rfl:=qd hF
   exact rG ⟨_,hK1,rfl,h⟩ rfl
  refine X2 7 1 0 h rfl (zcB h hF (qfH (h.old ha1) ⟨_,_,rfl,(h.oldS s8)⟩) rfl fun r7 w9 h hF=>X0 4 rfl ?_)
  replace h:=h.pick [0] rfl
  obtain rfl:=qd hF
  exact rG ⟨_,hK1,rfl,h⟩ rfl
 rintro e1 w10 ⟨b1,hF,rfl,h⟩
 subst hKF1
 refine qm rfl hF ?_ ?_<;>intro hF
 ·exact X0 4 rfl (rb h hF rfl)
 refine X1 13 0 h rfl (qm rfl hF ?_ ?_)<;>intro hF
 ·exact X1 7 0 h rfl (rb h hF rfl)
 refine X0 5 rfl (qm rfl hF ?_ ?_)<;>intro hF
 ·exact X1 4 0 h rfl (zcB h hF qU rfl fun r1 w3 h hF=>X0 2 rfl (rb h hF rfl))
 refine X0 6 rfl (qm rfl hF ?_ ?_)<;>intro hF
 ·refine qcV (qm rfl hF ?_ ?_)<;>intro hF
  ·exact X1 4 0 h rfl (zcB h hF qU rfl fun r2 w4 h hF=>X0 2 rfl (rb h hF rfl))
  exact X0 6 rfl (rb h hF rfl)
 refine X0 4 rfl (qm rfl hF ?_ ?_)<;>intro hF
 ·exact X1 4 0 h rfl (zcB h hF qU rfl fun r3 w5 h hF=>X0 2 rfl (rb h hF rfl))
 exact X0 6 rfl (rb h hF rfl)
def qdM (_:Nat) (a:qaw):Option (List qJ) :=
 bif (a.Am==2) then some ([(⟨0,0⟩:qJ),(⟨0,1⟩:qJ)]:List qJ) else
 bif (a.Am==3) then some ([(⟨1,0⟩:qJ),(⟨1,1⟩:qJ)]:List qJ) else
 bif (a.Am != 1) then some [] else
 bif (a.Bj==1) then some ([(⟨0,0⟩:qJ),(⟨1,1⟩:qJ)]:List qJ) else
 bif (a.Bj==2) then some ([(⟨0,1⟩:qJ),(⟨1,0⟩:qJ)]:List qJ) else
 some ([(⟨0,0⟩:qJ),(⟨0,1⟩:qJ),(⟨1,0⟩:qJ),(⟨1,1⟩:qJ)]:List qJ)
theorem qhz {a:qaw} (ha1:GoT.R w (old w) a cs1) {r:(List qJ)} (hF:qdM n a=some r):RetV Tryz.prog 117 [GoT.v qaw cs1] w r:=by
 obtain ⟨p1,k1,p2,k2,rfl,s1,s2⟩:=qaM ha1
 refine zV 44 Tryz.func117 rfl fun h=>zSR (qO h rfl rfl fun w1 bb1 h=>X0 4 rfl (r_v (qeq qb [0,1] [.const (.int .i64 (0)),.const (.int .i64 (0))] rfl rfl rfl rfl rfl rfl rfl rfl rfl) rfl (r_v (qeq qb [0,1] [.const (.int .i64 (1)),.const (.int .i64 (1))] rfl rfl rfl rfl rfl rfl rfl rfl rfl) rfl (ql qb [.tmp 5,.tmp 6] _ ([(⟨0,0⟩:qJ),(⟨1,1⟩:qJ)]:List qJ) h rfl rfl rfl rfl rfl rfl rfl rfl rfl ⟨(qce (⟨0,0⟩:qJ)),(qce (⟨1,1⟩:qJ)),trivial⟩ rfl fun w2 p3 S1 h=>X0 4 rfl (r_v (qeq qb [0,1] [.const (.int .i64 (0)),.const (.int .i64 (1))] rfl rfl rfl rfl rfl rfl rfl rfl rfl) rfl (r_v (qeq qb [0,1] [.const (.int .i64 (1)),.const (.int .i64 (0))] rfl rfl rfl rfl rfl rfl rfl rfl rfl) rfl (ql qb [.tmp 8,.tmp 9] _ ([(⟨0,1⟩:qJ),(⟨1,0⟩:qJ)]:List qJ) h rfl rfl rfl rfl rfl rfl rfl rfl rfl ⟨(qce (⟨0,1⟩:qJ)),(qce (⟨1,0⟩:qJ)),trivial⟩ rfl fun w3 p4 S2 h=>X1 11 2 h rfl (qm rfl hF ?_ ?_))))))))<;>intro hF
 ·refine zSR (r_v (qeq qb [0,1] [.const (.int .i64 (0)),.const (.int .i64 (0))] rfl rfl rfl rfl rfl rfl rfl rfl rfl) rfl (r_v (qeq qb [0,1] [.const (.int .i64 (0)),.const (.int .i64 (1))] rfl rfl rfl rfl rfl rfl rfl rfl rfl) rfl (ql qb [.tmp 15,.tmp 16] _ ([(⟨0,0⟩:qJ),(⟨0,1⟩:qJ)]:List qJ) h rfl rfl rfl rfl rfl rfl rfl rfl rfl ⟨(qce (⟨0,0⟩:qJ)),(qce (⟨0,1⟩:qJ)),trivial⟩ rfl fun w4 p5 S3 h=>X0 2 rfl ?_)))
  obtain rfl:=qd hF
  exact rO 0 h rfl ⟨rfl,trivial⟩
 refine X1 7 2 h rfl (qm rfl hF ?_ ?_)<;>intro hF
 ·refine zSR (r_v (qeq qb [0,1] [.const (.int .i64 (1)),.const (.int .i64 (0))] rfl rfl rfl rfl rfl rfl rfl rfl rfl) rfl (r_v (qeq qb [0,1] [.const (.int .i64 (1)),.const (.int .i64 (1))] rfl rfl rfl rfl rfl rfl rfl rfl rfl) rfl (ql qb [.tmp 22,.tmp 23] _ ([(⟨1,0⟩:qJ),(⟨1,1⟩:qJ)]:List qJ) h rfl rfl rfl rfl rfl rfl rfl rfl rfl ⟨(qce (⟨1,0⟩:qJ)),(qce (⟨1,1⟩:qJ)),trivial⟩ rfl fun w5 p6 S4 h=>X0 2 rfl ?_)))
  obtain rfl:=qd hF
  exact rO 0 h rfl ⟨rfl,trivial⟩
 refine X1 7 2 h rfl (qm rfl hF ?_ ?_)<;>intro hF
 ·refine X0 4 rfl ?_
  obtain rfl:=qd hF
  exact qbn qb (ρ:=(List qJ)) [GoT.v (List qJ) [.slice none 0 0]] h ⟨rfl,trivial⟩ (PV.done h (qdq qfP))
 refine X1 7 2 h rfl (qm rfl hF ?_ ?_)<;>intro hF
 ·refine X0 5 rfl ?_
  obtain rfl:=qd hF
  exact rO 1 h rfl ⟨rfl,trivial⟩
 refine X1 7 2 h rfl (qm rfl hF ?_ ?_)<;>intro hF
 ·refine X0 5 rfl ?_
  obtain rfl:=qd hF
  exact rO 0 h rfl ⟨rfl,trivial⟩
 refine X0 4 rfl (r_v (qeq qb [0,1] [.const (.int .i64 (0)),.const (.int .i64 (0))] rfl rfl rfl rfl rfl rfl rfl rfl rfl) rfl (r_v (qeq qb [0,1] [.const (.int .i64 (0)),.const (.int .i64 (1))] rfl rfl rfl rfl rfl rfl rfl rfl rfl) rfl (r_v (qeq qb [0,1] [.const (.int .i64 (1)),.const (.int .i64 (0))] rfl rfl rfl rfl rfl rfl rfl rfl rfl) rfl (r_v (qeq qb [0,1] [.const (.int .i64 (1)),.const (.int .i64 (1))] rfl rfl rfl rfl rfl rfl rfl rfl rfl) rfl (ql qb [.tmp 39,.tmp 40,.tmp 41,.tmp 42] _ ([(⟨0,0⟩:qJ),(⟨0,1⟩:qJ),(⟨1,0⟩:qJ),(⟨1,1⟩:qJ)]:List qJ) h rfl rfl rfl rfl rfl rfl rfl rfl rfl ⟨(qce (⟨0,0⟩:qJ)),(qce (⟨0,1⟩:qJ)),(qce (⟨1,0⟩:qJ)),(qce (⟨1,1⟩:qJ)),trivial⟩ rfl fun w6 p7 S5 h=>X0 2 rfl ?_)))))
 obtain rfl:=qd hF
 exact rO 0 h rfl ⟨rfl,trivial⟩
def qbg (first:Int) (i1:Int) (y2:qaw) (r1:(List qJ)):Nat→(List qaT)→Int→Option ((List qaT) × Int)
 | 0,_,_=>none
 | n+1,x2,i2 =>
  bif decide (i2<(r1.length:Int)) then
   (idx r1 i2).bind fun y3 =>
   (appS x2 ([(⟨W64 ((W64 (2*(W64 (first+y2.Au))))+y3.e0),W64 ((W64 (2*(W64 (first+y2.To))))+y3.e1),1,i1⟩:qaT)]:List qaT)).bind fun x3 =>
   qbg first i1 y2 r1 n x3 (W64 (i2+1))
  else
   some (x2,i2)
def qbi (first:Int) (y1:qr):Nat→(List qaT)→Int→Option ((List qaT) × Int)
 | 0,_,_=>none
 | n+1,x1,i1 =>
  bif decide (i1<(y1.Ar.length:Int)) then
   (idx y1.Ar i1).bind fun y2 =>
   (qdM n y2).bind fun r1 =>
   (qbg first i1 y2 r1 n x1 0).bind fun o=>match o with
   | (x2,_) =>
    qbi first y1 n x2 (W64 (i1+1))
  else
   some (x1,i1)
def qdD (n:Nat) (b:qc) (x:qu) (first:Int):Option (List qaT) :=
 (idx b.Ac.Ai x.Ba).bind fun y1 =>
 (qbi first y1 n ([]:List qaT) 0).bind fun o=>match o with
 | (x1,_) =>
  some x1
theorem qhB {b:qc} {x:qu} {first:Int} (ha1:GoT.R w (old w) b cs1) (ha2:GoT.R w (old w) x cs2) {r:(List qaT)} (hF:qdD n b x first=some r):RetV Tryz.prog 72 [GoT.v qc cs1,GoT.v qu cs2,.int .i64 first] w r:=by
 obtain ⟨p1,k1,p2,k2,p3,k3,p4,k4,p5,k5,rfl,s1,s2,s3,s4,s5⟩:=qT ha1
 obtain ⟨p6,k6,rfl,s6⟩:=qau ha2
 refine zV 57 Tryz.func72 rfl fun h=>zSR (qO h rfl rfl fun w1 bb1 h=>qO h rfl rfl fun w2 bb2 h=>X2 14 1 0 h rfl ?_)
 obtain ⟨y1,hy1,hF,he1,b1,_,q1,cs3,hp1,hq1,hr1,hc1⟩:=s1.ix hF
 obtain ⟨p7,k7,p8,k8,p9,k9,rfl,s7,s8,s9⟩:=qQ hr1
 refine zxe hp1 hq1 he1 rfl (zp1 rfl (zc 3 (hc1.below h.below) rfl (X0 3 rfl ?_)))
 replace h:=h.nil (α:=qaT)
 obtain ⟨o1,hF,hK1⟩:=qe hF
 refine qq ?_
 replace h:=h.pick [0] rfl
 refine rL (fun m e w'=>∃ (S1:Nat→Prop) (p10:Option Addr) (ln1:Nat) (k10:Nat) (x1:(List qaT)) (i1:Int),qbi first y1 m x1 i1=some o1∧e=[(2,.int .i64 first),(7,.slice p10 ln1 k10),(19,.slice p8 y1.Ar.length k8),(20,.int .i64 (y1.Ar.length:Int)),(21,.int .i64 i1)]∧SH w w' [Ch.own S1 (x1:List qaT) [.slice p10 ln1 k10]]) n ⟨_,_,_,_,_,_,hF,rfl,h⟩ rfl ?_
 rintro m1 e1 w3 ⟨S1,p10,ln1,k10,x1,i1,hF,rfl,h⟩
 obtain rfl:=(h.sl 0 rfl).2
 rcases m1 with _|m1
 ·cases hF
 refine X0 5 rfl (qm rfl hF ?_ ?_)<;>intro hF
 ·refine X0 6 rfl ?_
  obtain ⟨y2,hy2,hF,he2,b2,_,q2,cs4,hp2,hq2,hr2,hc3⟩:=s8.ix hF
  obtain ⟨p11,k11,p12,k12,rfl,s10,s11⟩:=qaM hr2
  refine zxe hp2 hq2 he2 rfl (zc 0 (hc3.below h.below) rfl (qx qb h rfl rfl rfl fun w4 bb3 h=>zp1 rfl (zs 0 h rfl fun w5 h=>X1 4 0 h rfl (zcL h hF (qhz (qhH y2 (h.oldS s10) (h.oldS s11))) rfl fun r1 w6 S2 p13 k13 h hF=>X0 3 rfl ?_))))
  obtain ⟨o2,hF,hK2⟩:=qe hF
  refine qq (rL (fun m e w'=>∃ (S3:Nat→Prop) (p14:Option Addr) (ln2:Nat) (k14:Nat) (x2:(List qaT)) (i2:Int),qbg first i1 y2 r1 m x2 i2=some o2∧e=[(2,.int .i64 first),(7,.slice p14 ln2 k14),(8,.int .i64 i1),(9,.pointer (some ⟨bb3,0,none⟩)),(19,.slice p8 y1.Ar.length k8),(20,.int .i64 (y1.Ar.length:Int)),(21,.int .i64 i1),(27,.slice p13 r1.length k13),(28,.int .i64 (r1.length:Int)),(29,.int .i64 i2)]∧SH w w' [Ch.own S2 (r1:List qJ) [.slice p13 r1.length k13],Ch.box bb3 (qeQ y2 p11 p12 k11 k12) 183,Ch.own S3 (x2:List qaT) [.slice p14 ln2 k14]]) m1 ⟨_,_,_,_,_,_,hF,rfl,h⟩ rfl ?_)
  rintro m2 e2 w7 ⟨S3,p14,ln2,k14,x2,i2,hF,rfl,h⟩
  obtain rfl:=(h.sl 2 rfl).2
  rcases m2 with _|m2
  ·cases hF
  refine X0 5 rfl (qm rfl hF ?_ ?_)<;>intro hF
  ·refine zKSBSR ?_
   obtain ⟨y3,hy3,hF,he3,b3,_,q3,cs5,hp3,hq3,hr4,hc5⟩:=(h.sl 0 rfl).1.ix hF
   obtain rfl:=ql8 hr4
   refine zx hp3 hq3 ⟨he3.1,qN he3.2.1 (h.sl 0 rfl).2⟩ rfl (zc 0 hc5 rfl (qx qb h rfl rfl rfl fun w8 bb4 h=>zs 0 h rfl fun w9 h=>X1 8 2 h rfl (r_v (qpF (iv:=0) qb rfl rfl (by decide) ⟨rfl,rfl⟩ rfl rfl) rfl (X2 7 0 2 h rfl (r_v (qpF (iv:=1) qb rfl rfl (by decide) ⟨rfl,rfl⟩ rfl rfl) rfl (X1 3 0 h rfl (r_v (qah qb [0,1,2,3] [.tmp 41,.tmp 49,.const (.int .i64 (1)),.tmp 50] rfl rfl rfl rfl rfl rfl rfl rfl) rfl (ql qb [.tmp 51] _ ([(⟨W64 ((W64 (2*(W64 (first+y2.Au))))+y3.e0),W64 ((W64 (2*(W64 (first+y2.To))))+y3.e1),1,i1⟩:qaT)]:List qaT) h rfl rfl rfl rfl rfl rfl rfl rfl rfl ⟨(qlI (⟨W64 ((W64 (2*(W64 (first+y2.Au))))+y3.e0),W64 ((W64 (2*(W64 (first+y2.To))))+y3.e1),1,i1⟩:qaT)),trivial⟩ rfl fun w10 p15 S4 h=>?_))))))))
   obtain ⟨x3,hx1,hF⟩:=qe hF
   obtain ⟨g1,hx1⟩:=qw hx1
   refine qak qb 4 h rfl (h.sl 0 rfl).1 (h.sl 0 rfl).2 rfl rfl rfl rfl rfl rfl rfl rfl rfl g1 hx1 rfl fun w11 p16 k15 S5 h=>X0 7 rfl ?_
   replace h:=h.pick [2,3,4] rfl
   exact rK ⟨_,_,_,_,_,_,hF,rfl,h⟩ rfl
  refine qy rfl ?_
  obtain rfl:=qd hF;replace hF:=hK2
  refine X0 5 rfl ?_
  replace h:=h.pick [2] rfl
  exact rK ⟨_,_,_,_,_,_,hF,rfl,h⟩ rfl
 refine qy rfl ?_
 obtain rfl:=qd hF;replace hF:=hK1
 refine X0 5 rfl ?_
 obtain rfl:=qd hF
 exact rO 0 h rfl ⟨rfl,trivial⟩
def qfw (_:Nat) (s:(List Int)):Option (List Int) :=
 appS ([]:List Int) s
theorem qin {s:(List Int)} (ha1:GoT.R w (old w) s cs1) {r:(List Int)} (hF:qfw n s=some r):RetV Tryz.prog 118 [GoT.v (List Int) cs1] w r:=by
 obtain ⟨p,k,rfl,s1⟩:=ha1
 obtain ⟨g1,hx⟩:=qw (show appS ([]:List Int) s=some r from hF)
 cases p with
 | none =>
  obtain rfl:=qnh s1
  obtain rfl:[]=r:=hx
  exact zV 8 Tryz.func118 rfl fun h=>X0 8 rfl (r_v (qnc qb rfl rfl rfl rfl rfl) rfl (qa5 (qdP rfl rfl (X0 4 rfl (qbn qb (ρ:=(List Int)) [GoT.v (List Int) [.slice none 0 0]] h ⟨rfl,trivial⟩ (PV.done h (qdq qfP)))))))
 | some a =>
  refine zV 8 Tryz.func118 rfl fun h=>X0 8 rfl (r_v (qnc qb rfl rfl rfl rfl rfl) rfl (qa5 (qel rfl rfl (zKSR (ql qb [] _ ([]:List Int) h rfl rfl rfl rfl rfl rfl rfl rfl rfl trivial rfl fun w1 p1 S1 h=>zp1 rfl (qoP qb 0 h rfl (h.oldS s1) rfl rfl rfl rfl rfl rfl rfl rfl rfl rfl g1 rfl fun w2 p2 k2 S2 h=>?_))))))
  rw [hx] at h
  exact X0 2 rfl (qbn qb (ρ:=(List Int)) [GoT.v (List Int) [.slice p2 (([]:List Int).length+s.length) k2]] h ⟨rfl,trivial⟩ (PV.done h (qdq (qB 0 h rfl))))
def qaF (net:Int) (r1:(List Tplace)):Nat→(List Int)→Int→Option ((List Int) × Int)
 | 0,_,_=>none
 | n+1,x1,i1 =>
  bif decide (i1<(r1.length:Int)) then
   (idx r1 i1).bind fun y1 =>
   bif (y1.net==net) then
    bif (!y1.drives) then
     (appS x1 ([i1]:List Int)).bind fun x2 =>
     qaF net r1 n x2 (W64 (i1+1))
    else
     qaF net r1 n x1 (W64 (i1+1))
   else
    qaF net r1 n x1 (W64 (i1+1))
  else
   some (x1,i1)
def qeA (n:Nat) (d:qg) (net:Int):Option (List Int) :=
 (qbj n d).bind fun r1 =>
 (qaF net r1 n ([]:List Int) 0).bind fun o=>match o with
 | (x1,_) =>
  some x1
theorem qiC {d:qg} {net:Int} (ha1:GoT.R w (old w) d cs1) {r:(List Int)} (hF:qeA n d net=some r):RetV Tryz.prog 119 [GoT.v qg cs1,.int .i64 net] w r:=by
 obtain ⟨p1,k1,p2,k2,p3,k3,rfl,s1,s2,s3⟩:=qZ ha1
 refine zV 31 Tryz.func119 rfl fun h=>zSR (qO h rfl rfl fun w1 bb1 h=>X1 10 0 h rfl (zcL h hF (qci (h.old ha1)) rfl fun r1 w2 S1 p4 k4 h hF=>X0 3 rfl ?_))
 replace h:=h.nil (α:=Int)
 obtain ⟨o1,hF,hK1⟩:=qe hF
 refine qq ?_
 replace h:=h.pick [0,1] rfl
 refine rL (fun m e w'=>∃ (S2:Nat→Prop) (p5:Option Addr) (ln1:Nat) (k5:Nat) (x1:(List Int)) (i1:Int),qaF net r1 m x1 i1=some o1∧e=[(1,.int .i64 net),(5,.slice p5 ln1 k5),(9,.slice p4 r1.length k4),(10,.int .i64 (r1.length:Int)),(11,.int .i64 i1)]∧SH w w' [Ch.own S2 (x1:List Int) [.slice p5 ln1 k5],Ch.own S1 (r1:List Tplace) [.slice p4 r1.length k4]]) n ⟨_,_,_,_,_,_,hF,rfl,h⟩ rfl ?_
 rintro m1 e1 w3 ⟨S2,p5,ln1,k5,x1,i1,hF,rfl,h⟩
 obtain rfl:=(h.sl 0 rfl).2
 rcases m1 with _|m1
 ·cases hF
 refine X0 5 rfl (qm rfl hF ?_ ?_)<;>intro hF
 ·refine X0 6 rfl ?_
  obtain ⟨y1,hy1,hF,he1,b1,_,q1,cs2,hp1,hq1,hr2,hc2⟩:=(h.sl 1 rfl).1.ix hF
  obtain rfl:=qdC hr2
  refine zx hp1 hq1 ⟨he1.1,qN he1.2.1 (h.sl 1 rfl).2⟩ rfl (zc 0 hc2 rfl (qx qb h rfl rfl rfl fun w4 bb2 h=>zp1 rfl (zs 0 h rfl fun w5 h=>X1 8 0 h rfl (qi (t:=20) hF rfl ?_ ?_))))<;>intro hF
  ·refine X1 8 0 h rfl (qm rfl hF ?_ ?_)<;>intro hF
   ·refine X0 3 rfl (ql qb [.tmp 26] _ ([i1]:List Int) h rfl rfl rfl rfl rfl rfl rfl rfl rfl ⟨rfl,trivial⟩ rfl fun w6 p6 S3 h=>?_)
    obtain ⟨x2,hx1,hF⟩:=qe hF
    obtain ⟨g1,hx1⟩:=qw hx1
    refine qak qb 2 h rfl (h.sl 0 rfl).1 (h.sl 0 rfl).2 rfl rfl rfl rfl rfl rfl rfl rfl rfl g1 hx1 rfl fun w7 p7 k6 S4 h=>X0 7 rfl ?_
    replace h:=h.pick [2,3] rfl
    exact rK ⟨_,_,_,_,_,_,hF,rfl,h⟩ rfl
   refine X0 6 rfl ?_
   replace h:=h.pick [1,2] rfl
   exact rK ⟨_,_,_,_,_,_,hF,rfl,h⟩ rfl
  refine X0 5 rfl (qel rfl rfl (X0 6 rfl ?_))
  replace h:=h.pick [1,2] rfl
  exact rK ⟨_,_,_,_,_,_,hF,rfl,h⟩ rfl
 refine qy rfl ?_
 obtain rfl:=qd hF;replace hF:=hK1
 refine X0 5 rfl ?_
 obtain rfl:=qd hF
 exact rO 0 h rfl ⟨rfl,trivial⟩
def qez (_:Nat) (d:qg) (l:qj) (p:Tplace):Option Int :=
 bif decide (p.instance_<0) then some 0 else
 (idx d.Ab p.instance_).bind fun y1 =>
 (idx l.Ai y1.Ba).bind fun y2 =>
 (idx y2.Aq p.pin).bind fun y3 =>
 some y3.Be
theorem qiH {d:qg} {l:qj} {p:Tplace} (ha1:GoT.R w (old w) d cs1) (ha2:GoT.R w (old w) l cs2) (ha3:GoT.R w (old w) p cs3) {r:Int} (hF:qez n d l p=some r):RetV Tryz.prog 120 [GoT.v qg cs1,GoT.v qj cs2,GoT.v Tplace cs3] w r:=by
 obtain ⟨p1,k1,p2,k2,p3,k3,rfl,s1,s2,s3⟩:=qZ ha1
 obtain ⟨p4,k4,rfl,s4⟩:=qaK ha2
 obtain rfl:=qdC ha3
 refine zV 27 Tryz.func120 rfl fun h=>zSR (qO h rfl rfl fun w1 bb1 h=>qO h rfl rfl fun w2 bb2 h=>qO h rfl rfl fun w3 bb3 h=>X1 9 0 h rfl (qm rfl hF ?_ ?_))<;>intro hF
 ·exact X0 4 rfl (ri h hF rfl)
 refine zKS (rD (Y1 2 1 h rfl ?_))
 refine Y1 2 2 h rfl ?_
 refine Y1 2 0 h rfl ?_
 obtain ⟨y1,hy1,hF,he1,b1,_,q1,cs4,hp1,hq1,hr1,hc2⟩:=s1.ix hF
 obtain ⟨p5,k5,rfl,s5⟩:=qau hr1
 refine zdxe hp1 hq1 he1 rfl (zd1 rfl (zdc 1 (hc2.below h.below) rfl ?_))
 obtain ⟨y2,hy2,hF,he2,b2,_,q2,cs5,hp2,hq2,hr2,hc3⟩:=s4.ix hF
 obtain ⟨p6,k6,p7,k7,p8,k8,rfl,s6,s7,s8⟩:=qQ hr2
 refine zdxe hp2 hq2 he2 rfl (zd1 rfl (zdc 2 (hc3.below h.below) rfl (Y1 2 0 h rfl ?_)))
 obtain ⟨y3,hy3,hF,he3,b3,_,q3,cs6,hp3,hq3,hr3,hc4⟩:=s6.ix hF
 obtain rfl:=qdg hr3
 exact zdxe hp3 hq3 he3 rfl (zd1 rfl (zdc 2 (hc4.below h.below) rfl (zd1 rfl (dN h fun w4 h=>ri h hF rfl))))
def qbf (y1:qW):Nat→(List Int)→Int→Option ((List Int) × Int)
 | 0,_,_=>none
 | n+1,x2,i2 =>
  bif decide (i2 > 0) then
   (idx y1.Ak i2).bind fun y7 =>
   (idx x2 y7).bind fun y8 =>
   (idx x2 i2).bind fun y9 =>
   (idx x2 y7).bind fun _ =>
   qbf y1 n (setS x2 y7 (W64 (y8+y9))) (W64 (i2-1))
  else
   some (x2,i2)
def qbe (a_0:qc) (y1:qW) (r2:(List Tplace)) (r3:(List Int)):Nat→(List Int)→Int→Option ((List Int) × Int)
 | 0,_,_=>none
 | n+1,x1,i1 =>
  bif decide (i1<(r3.length:Int)) then
   (idx r3 i1).bind fun y2 =>
   (idx y1.Ay i1).bind fun y3 =>
   (idx x1 y3).bind fun y4 =>
   (idx r2 y2).bind fun y5 =>
   (qez n (⟨a_0.Aa.Ab,a_0.Aa.Aj,a_0.Aa.Af⟩:qg) (⟨a_0.Ac.Ai⟩:qj) y5).bind fun r4 =>
   (idx x1 y3).bind fun _ =>
   qbe a_0 y1 r2 r3 n (setS x1 y3 (W64 (y4+r4))) (W64 (i1+1))
  else
   some (x1,i1)
def qcx (n:Nat) (a_0:qc) (a_1:Int):Option (List Int) :=
 (idx a_0.Ah a_1).bind fun y1 =>
 (qfw n y1.Be).bind fun r1 =>
 (qbj n (⟨a_0.Aa.Ab,a_0.Aa.Aj,a_0.Aa.Af⟩:qg)).bind fun r2 =>
 (qeA n (⟨a_0.Aa.Ab,a_0.Aa.Aj,a_0.Aa.Af⟩:qg) a_1).bind fun r3 =>
 (qbe a_0 y1 r2 r3 n r1 0).bind fun o=>match o with
 | (x1,_) =>
  (qbf y1 n x1 (W64 ((r1.length:Int)-1))).bind fun o=>match o with
  | (x2,_) =>
   some x2
theorem qd0 {a_0:qc} {a_1:Int} (ha1:GoT.R w (old w) a_0 cs1) {r:(List Int)} (hF:qcx n a_0 a_1=some r):RetV Tryz.prog 74 [GoT.v qc cs1,.int .i64 a_1] w r:=by
 obtain ⟨p1,k1,p2,k2,p3,k3,p4,k4,p5,k5,rfl,s1,s2,s3,s4,s5⟩:=qT ha1
 refine zV 74 Tryz.func74 rfl fun h=>zSR (qO h rfl rfl fun w1 bb1 h=>X1 7 0 h rfl ?_)
 obtain ⟨y1,hy1,hF,he1,b1,_,q1,cs2,hp1,hq1,hr1,hc1⟩:=s5.ix hF
 obtain ⟨p6,k6,p7,k7,p8,k8,p9,k9,rfl,s6,s7,s8,s9⟩:=qbR hr1
 refine zxe hp1 hq1 he1 rfl (zc 0 (hc1.below h.below) rfl (qx qb h rfl rfl rfl fun w2 bb2 h=>zs 0 h rfl fun w3 h=>X1 5 0 h rfl (zcL h hF (qin ⟨_,_,rfl,(h.oldS s8)⟩) rfl fun r1 w4 S1 p10 k10 h hF=>X1 6 2 h rfl (zcL h hF (qci (qat _ (h.oldS s2) (h.oldS s3) (h.oldS s4))) rfl fun r2 w5 S2 p11 k11 h hF=>X1 8 3 h rfl (zcL h hF (qiC (qat _ (h.oldS s2) (h.oldS s3) (h.oldS s4))) rfl fun r3 w6 S3 p12 k12 h hF=>X0 3 rfl ?_)))))
 obtain ⟨o1,hF,hK1⟩:=qe hF
 refine qq (rL (fun m e w'=>∃ (x1:(List Int)) (i1:Int),qbe a_0 y1 r2 r3 m x1 i1=some o1∧e=[(2,.pointer (some ⟨bb1,0,none⟩)),(5,.pointer (some ⟨bb2,0,none⟩)),(6,.slice p10 r1.length k10),(7,.slice p11 r2.length k11),(25,.slice p12 r3.length k12),(26,.int .i64 (r3.length:Int)),(27,.int .i64 i1)]∧SH w w' [Ch.own S3 (r3:List Int) [.slice p12 r3.length k12],Ch.own S2 (r2:List Tplace) [.slice p11 r2.length k11],Ch.own S1 (x1:List Int) [.slice p10 r1.length k10],Ch.box bb2 (qfq y1 p6 p7 p8 p9 k6 k7 k8 k9) 109,Ch.box bb1 (qz a_0 p1 p2 p3 p4 p5 k1 k2 k3 k4 k5) 48]) n ⟨_,_,hF,rfl,h⟩ rfl ?_)
 rintro m1 e1 w7 ⟨x1,i1,hF,rfl,h⟩
 rcases m1 with _|m1
 ·cases hF
 refine X0 5 rfl (qm rfl hF ?_ ?_)<;>intro hF
 ·refine X0 6 rfl ?_
  obtain ⟨y2,hy2,hF,he2,b2,_,q2,cs3,hp2,hq2,rfl,hc3⟩:=(h.sl 0 rfl).1.ix hF
  refine zx hp2 hq2 ⟨he2.1,qN he2.2.1 (h.sl 0 rfl).2⟩ rfl (zc 0 hc3 rfl (X0 3 rfl (rA [19] [1,2,3,4] h rfl fun w8 h=>M1 15 [0,1,2,3] 2 (h.pick [1,2,3,4] rfl) rfl ?_)))
  obtain ⟨y3,hy3,hF,he3,b3,_,q3,cs4,hp3,hq3,rfl,hc4⟩:=s9.ix hF
  refine Ae 4 31 hp3 hq3 he3 (h.pick [1,2,3,4] rfl) rfl (Al 5 63 0 hc4 (h.pick [1,2,3,4] rfl) rfl ?_)
  obtain ⟨y4,hy4,hF,he4,b4,_,q4,cs5,hp4,hq4,rfl,hc5⟩:=(h.sl 2 rfl).1.ix hF
  refine Ax 6 127 hp4 hq4 ⟨he4.1,qN he4.2.1 (h.sl 2 rfl).2⟩ (h.pick [1,2,3,4] rfl) rfl (Aw 7 255 (fun w' hw=>qeJ qb (qcl (w1:=w) (S1:=fun _=>False) hw 1 rfl hy4 hp4 hq4 rfl) (j:=0) rfl rfl rfl) (h.pick [1,2,3,4] rfl) rfl ?_)
  refine M2 16383 [8,9,10,11,12,13] 3 3 (h.pick [1,2,3,4] rfl) rfl ?_
  obtain ⟨y5,hy5,hF,he5,b5,_,q5,cs6,hp5,hq5,hr8,hc6⟩:=(h.sl 1 rfl).1.ix hF
  obtain rfl:=qdC hr8
  refine Ax 14 32767 hp5 hq5 ⟨he5.1,qN he5.2.1 (h.sl 1 rfl).2⟩ (h.pick [1,2,3,4] rfl) rfl (Aw 15 65535 (fun w' hw=>qeJ qb (qcl hw 0 rfl hy5 hp5 hq5 (qeF (w:=w) (S:=fun _=>False) y5)) (j:=0) rfl rfl rfl) (h.pick [1,2,3,4] rfl) rfl ?_)
  refine Ao 16 131071 rfl (zcI h hF (qiH (qat _ (h.oldS s2) (h.oldS s3) (h.oldS s4)) (qbw _ (h.oldS s1)) (qeF y5)) rfl fun r4 w9 h hF=>G0 262143 [17] (h.pick [1,2,3,4] rfl) rfl ?_)
  obtain ⟨y6,hy6,hF,he6,b6,_,q6,cs7,hp6,hq6,rfl,hc7⟩:=(h.sl 2 rfl).1.ix hF
  exact Ax 18 524287 hp6 hq6 ⟨he6.1,qN he6.2.1 (h.sl 2 rfl).2⟩ (h.pick [1,2,3,4] rfl) rfl (Ao 19 1048575 rfl (qdF qb 2 0 (W64 (y4+r4)) h rfl hy6 hp6 hq6 rfl hc7 rfl rfl rfl rfl rfl rfl rfl fun w10 h=>qdR (fun hs=>absurd (hs 19 (by decide)) (by decide)) (Ad (X0 5 rfl (rK ⟨_,_,hF,rfl,h⟩ rfl)))))
 refine qy rfl ?_
 obtain rfl:=qd hF;replace hF:=hK1
 refine X0 8 rfl ?_
 obtain ⟨o2,hF,hK2⟩:=qe hF
 refine qq ?_
 replace h:=h.pick [2,3] rfl
 refine rL (fun m e w'=>∃ (x2:(List Int)) (i2:Int),qbf y1 m x2 i2=some o2∧e=[(5,.pointer (some ⟨bb2,0,none⟩)),(6,.slice p10 r1.length k10),(10,.int .i64 i2)]∧SH w w' [Ch.own S1 (x2:List Int) [.slice p10 r1.length k10],Ch.box bb2 (qfq y1 p6 p7 p8 p9 k6 k7 k8 k9) 109]) n ⟨_,_,hF,rfl,h⟩ rfl ?_
 rintro m2 e2 w11 ⟨x2,i2,hF,rfl,h⟩
 rcases m2 with _|m2
 ·cases hF
 refine X0 6 rfl (qm rfl hF ?_ ?_)<;>intro hF
 ·refine zKSB (rA [14] [0,1] h rfl fun w12 h=>M1 15 [0,1,2,3] 1 (h.pick [0,1] rfl) rfl ?_)
  obtain ⟨y7,hy7,hF,he7,b7,_,q7,cs8,hp7,hq7,rfl,hc9⟩:=s6.ix hF
  refine Ae 4 31 hp7 hq7 he7 (h.pick [0,1] rfl) rfl (Al 5 63 0 hc9 (h.pick [0,1] rfl) rfl ?_)
  obtain ⟨y8,hy8,hF,he8,b8,_,q8,cs9,hp8,hq8,rfl,hc10⟩:=(h.sl 0 rfl).1.ix hF
  refine Ax 6 127 hp8 hq8 ⟨he8.1,qN he8.2.1 (h.sl 0 rfl).2⟩ (h.pick [0,1] rfl) rfl (Aw 7 255 (fun w' hw=>qeJ qb (qcl (w1:=w) (S1:=fun _=>False) hw 0 rfl hy8 hp8 hq8 rfl) (j:=0) rfl rfl rfl) (h.pick [0,1] rfl) rfl ?_)
  refine M0 1023 [8,9] (h.pick [0,1] rfl) rfl ?_
  obtain ⟨y9,hy9,hF,he9,b9,_,q9,cs10,hp9,hq9,rfl,hc11⟩:=(h.sl 0 rfl).1.ix hF
  refine Ax 10 2047 hp9 hq9 ⟨he9.1,qN he9.2.1 (h.sl 0 rfl).2⟩ (h.pick [0,1] rfl) rfl (Aw 11 4095 (fun w' hw=>qeJ qb (qcl (w1:=w) (S1:=fun _=>False) hw 0 rfl hy9 hp9 hq9 rfl) (j:=0) rfl rfl rfl) (h.pick [0,1] rfl) rfl ?_)
  refine M0 8191 [12] (h.pick [0,1] rfl) rfl ?_
  obtain ⟨y10,hy10,hF,he10,b10,_,q10,cs11,hp10,hq10,rfl,hc12⟩:=(h.sl 0 rfl).1.ix hF
  exact Ax 13 16383 hp10 hq10 ⟨he10.1,qN he10.2.1 (h.sl 0 rfl).2⟩ (h.pick [0,1] rfl) rfl (Ao 14 32767 rfl (qdF qb 0 0 (W64 (y8+y9)) h rfl hy10 hp10 hq10 rfl hc12 rfl rfl rfl rfl rfl rfl rfl fun w13 h=>qdR (fun hs=>absurd (hs 14 (by decide)) (by decide)) (Ad (X0 6 rfl (rK ⟨_,_,hF,rfl,h⟩ rfl)))))
 refine qy rfl ?_
 obtain rfl:=qd hF;replace hF:=hK2
 refine X0 5 rfl ?_
 obtain rfl:=qd hF
 exact rO 0 h rfl ⟨rfl,trivial⟩
def qa4 (y1:qW) (r1:(List Int)) (x1:(List Int)):Nat→(List Int)→Int→Option ((List Int) × Int)
 | 0,_,_=>none
 | n+1,x2,i1 =>
  bif decide (i1<(x1.length:Int)) then
   (idx y1.Ak i1).bind fun y2 =>
   (idx x2 y2).bind fun y3 =>
   (idx y1.Bh i1).bind fun y4 =>
   (idx r1 i1).bind fun y5 =>
   (idx x2 i1).bind fun _ =>
   qa4 y1 r1 x1 n (setS x2 i1 (W64 (y3+(W64 (y4*y5))))) (W64 (i1+1))
  else
   some (x2,i1)
def qey (n:Nat) (b:qc) (net:Int):Option (List Int) :=
 (idx b.Ah net).bind fun y1 =>
 (qcx n b net).bind fun r1 =>
 (mkS (r1.length:Int) (0:Int)).bind fun x1 =>
 (qa4 y1 r1 x1 n x1 1).bind fun o=>match o with
 | (x2,_) =>
  some x2
theorem qhu {b:qc} {net:Int} (ha1:GoT.R w (old w) b cs1) {r:(List Int)} (hF:qey n b net=some r):RetV Tryz.prog 121 [GoT.v qc cs1,.int .i64 net] w r:=by
 obtain ⟨p1,k1,p2,k2,p3,k3,p4,k4,p5,k5,rfl,s1,s2,s3,s4,s5⟩:=qT ha1
 refine zV 49 Tryz.func121 rfl fun h=>zSR (qO h rfl rfl fun w1 bb1 h=>X0 3 rfl (rA [] [0] h rfl fun w2 h=>M1 7 [0,1,2] 0 (h.pick [0] rfl) rfl ?_))
 obtain ⟨y1,hy1,hF,he1,b1,_,q1,cs2,hp1,hq1,hr1,hc1⟩:=s5.ix hF
 obtain ⟨p6,k6,p7,k7,p8,k8,p9,k9,rfl,s6,s7,s8,s9⟩:=qbR hr1
 refine Ae 3 15 hp1 hq1 he1 (h.pick [0] rfl) rfl (Al 4 31 0 hc1 (h.pick [0] rfl) rfl (M1 127 [5,6] 0 (h.pick [0] rfl) rfl ?_))
 obtain ⟨r1,hr2,hF⟩:=qe hF
 refine qjx (fun e w'=>∃ (bb6:Nat) (S5:Nat→Prop) (p14:Option Addr) (k14:Nat),e=[(5,.pointer (some ⟨bb6,0,none⟩)),(6,.slice p14 r1.length k14)]∧SH w w' [Ch.box bb6 (qfq y1 p6 p7 p8 p9 k6 k7 k8 k9) 109,Ch.own S5 (r1:List Int) [.slice p14 r1.length k14],Ch.box bb1 (qz b p1 p2 p3 p4 p5 k1 k2 k3 k4 k5) 48]) 0 (bits 11 2047) ?_ ?_
 ·intro K
  refine At 7 8 255 383 rfl ?_ ?_
  ·exact qjL r1 h (cB 74 rfl) (qd0 (h.old ha1) hr2) rfl rfl rfl rfl fun w10 S4 p13 k13 h=>Ag (h.pick [1] rfl) (Ao 8 511 rfl (qx qb h rfl rfl rfl fun w11 bb5 h=>Ag (h.pick [2] rfl) (Ao 9 1023 rfl (zs 0 h rfl fun w12 h=>G0 2047 [10] (h.pick [2] rfl) rfl (qjj [(5,_),(6,_)] ⟨rfl,rfl,trivial⟩ (K _ _ ⟨_,_,_,_,rfl,h⟩))))))
  refine qx qb h rfl rfl rfl fun w10 bb5 h=>Ag (h.pick [1] rfl) (Ao 7 511 rfl (qjL r1 h (cB 74 rfl) (qd0 (h.old ha1) hr2) rfl rfl rfl rfl fun w11 S4 p13 k13 h=>Ag (h.pick [2] rfl) (Ao 9 1023 rfl (zs 1 h rfl fun w12 h=>G0 2047 [10] (h.pick [2] rfl) rfl ?_))))
  replace h:=h.pick [1,0,2] rfl
  exact qjj [(5,_),(6,_)] ⟨rfl,rfl,trivial⟩ (K _ _ ⟨_,_,_,_,rfl,h⟩)
 rintro e2 w13 ⟨bb6,S5,p14,k14,rfl,h⟩
 refine Ad (X0 4 rfl ?_)
 obtain ⟨x1,hx1,hF⟩:=qe hF
 obtain ⟨g1,g2,hx1⟩:=qgr hx1
 refine qhq qb Int h rfl rfl rfl rfl rfl rfl rfl rfl rfl g1 g2 hx1 rfl fun w14 S6 p15 h=>X0 7 rfl ?_
 obtain ⟨o1,hF,hK1⟩:=qe hF
 refine qq ?_
 replace h:=h.pick [0,1,2] rfl
 refine rL (fun m e w'=>∃ (x2:(List Int)) (i1:Int),qa4 y1 r1 x1 m x2 i1=some o1∧e=[(5,.pointer (some ⟨bb6,0,none⟩)),(6,.slice p14 r1.length k14),(7,.slice p15 x1.length x1.length),(8,.int .i64 i1)]∧SH w w' [Ch.own S6 (x2:List Int) [.slice p15 x1.length x1.length],Ch.box bb6 (qfq y1 p6 p7 p8 p9 k6 k7 k8 k9) 109,Ch.own S5 (r1:List Int) [.slice p14 r1.length k14]]) n ⟨_,_,hF,rfl,h⟩ rfl ?_
 rintro m1 e3 w15 ⟨x2,i1,hF,rfl,h⟩
 rcases m1 with _|m1
 ·cases hF
 refine X0 8 rfl (qm rfl hF ?_ ?_)<;>intro hF
 ·refine zKSB (rA [22] [0,1,2] h rfl fun w16 h=>M1 63 [0,1,2,3,4,5] 1 (h.pick [0,1,2] rfl) rfl ?_)
  obtain ⟨y2,hy2,hF,he2,b2,_,q2,cs3,hp2,hq2,rfl,hc3⟩:=s6.ix hF
  refine Ae 6 127 hp2 hq2 he2 (h.pick [0,1,2] rfl) rfl (Al 7 255 0 hc3 (h.pick [0,1,2] rfl) rfl ?_)
  obtain ⟨y3,hy3,hF,he3,b3,_,q3,cs4,hp3,hq3,rfl,hc4⟩:=(h.sl 0 rfl).1.ix hF
  refine Ax 8 511 hp3 hq3 ⟨he3.1,qN he3.2.1 (h.sl 0 rfl).2⟩ (h.pick [0,1,2] rfl) rfl (Aw 9 1023 (fun w' hw=>qeJ qb (qcl (w1:=w) (S1:=fun _=>False) hw 0 rfl hy3 hp3 hq3 rfl) (j:=0) rfl rfl rfl) (h.pick [0,1,2] rfl) rfl ?_)
  refine M1 8191 [10,11,12] 1 (h.pick [0,1,2] rfl) rfl ?_
  obtain ⟨y4,hy4,hF,he4,b4,_,q4,cs5,hp4,hq4,rfl,hc5⟩:=s7.ix hF
  refine Ae 13 16383 hp4 hq4 he4 (h.pick [0,1,2] rfl) rfl (Al 14 32767 0 hc5 (h.pick [0,1,2] rfl) rfl (M0 131071 [15,16] (h.pick [0,1,2] rfl) rfl ?_))
  obtain ⟨y5,hy5,hF,he5,b5,_,q5,cs6,hp5,hq5,rfl,hc6⟩:=(h.sl 2 rfl).1.ix hF
  refine Ax 17 262143 hp5 hq5 ⟨he5.1,qN he5.2.1 (h.sl 2 rfl).2⟩ (h.pick [0,1,2] rfl) rfl (Aw 18 524287 (fun w' hw=>qeJ qb (qcl (w1:=w) (S1:=fun _=>False) hw 2 rfl hy5 hp5 hq5 rfl) (j:=0) rfl rfl rfl) (h.pick [0,1,2] rfl) rfl ?_)
  refine M0 2097151 [19,20] (h.pick [0,1,2] rfl) rfl ?_
  obtain ⟨y6,hy6,hF,he6,b6,_,q6,cs7,hp6,hq6,rfl,hc7⟩:=(h.sl 0 rfl).1.ix hF
  exact Ax 21 4194303 hp6 hq6 ⟨he6.1,qN he6.2.1 (h.sl 0 rfl).2⟩ (h.pick [0,1,2] rfl) rfl (Ao 22 8388607 rfl (qdF qb 0 0 (W64 (y3+(W64 (y4*y5)))) h rfl hy6 hp6 hq6 rfl hc7 rfl rfl rfl rfl rfl rfl rfl fun w17 h=>qdR (fun hs=>absurd (hs 22 (by decide)) (by decide)) (Ad (X0 6 rfl (rK ⟨_,_,hF,rfl,h⟩ rfl)))))
 refine qy rfl ?_
 obtain rfl:=qd hF;replace hF:=hK1
 refine X0 5 rfl ?_
 obtain rfl:=qd hF
 exact rO 0 h rfl ⟨rfl,trivial⟩
def qaZ (r1:(List Int)) (y1:qW):Nat→(List Int)→Int→Option ((List Int) × Int)
 | 0,_,_=>none
 | n+1,x1,i1 =>
  bif decide (i1<(y1.Ay.length:Int)) then
   (idx y1.Ay i1).bind fun y2 =>
   (idx r1 y2).bind fun y3 =>
   (appS x1 ([y3]:List Int)).bind fun x2 =>
   qaZ r1 y1 n x2 (W64 (i1+1))
  else
   some (x1,i1)
def qcW (n:Nat) (b:qc) (net:Int):Option (List Int) :=
 (qey n b net).bind fun r1 =>
 (idx b.Ah net).bind fun y1 =>
 (qaZ r1 y1 n ([]:List Int) 0).bind fun o=>match o with
 | (x1,_) =>
  some x1
theorem qhc {b:qc} {net:Int} (ha1:GoT.R w (old w) b cs1) {r:(List Int)} (hF:qcW n b net=some r):RetV Tryz.prog 75 [GoT.v qc cs1,.int .i64 net] w r:=by
 obtain ⟨p1,k1,p2,k2,p3,k3,p4,k4,p5,k5,rfl,s1,s2,s3,s4,s5⟩:=qT ha1
 refine zV 32 Tryz.func75 rfl fun h=>zSR (qO h rfl rfl fun w1 bb1 h=>X1 6 0 h rfl (zcL h hF (qhu (h.old ha1)) rfl fun r1 w2 S1 p6 k6 h hF=>X1 12 1 h rfl ?_))
 obtain ⟨y1,hy1,hF,he1,b1,_,q1,cs2,hp1,hq1,hr2,hc1⟩:=s5.ix hF
 obtain ⟨p7,k7,p8,k8,p9,k9,p10,k10,rfl,s6,s7,s8,s9⟩:=qbR hr2
 refine zxe hp1 hq1 he1 rfl (zp1 rfl (zc 3 (hc1.below h.below) rfl (X0 3 rfl ?_)))
 replace h:=h.nil (α:=Int)
 obtain ⟨o1,hF,hK1⟩:=qe hF
 refine qq ?_
 replace h:=h.pick [0,1] rfl
 refine rL (fun m e w'=>∃ (S2:Nat→Prop) (p11:Option Addr) (ln1:Nat) (k11:Nat) (x1:(List Int)) (i1:Int),qaZ r1 y1 m x1 i1=some o1∧e=[(5,.slice p6 r1.length k6),(6,.slice p11 ln1 k11),(17,.slice p10 y1.Ay.length k10),(18,.int .i64 (y1.Ay.length:Int)),(19,.int .i64 i1)]∧SH w w' [Ch.own S2 (x1:List Int) [.slice p11 ln1 k11],Ch.own S1 (r1:List Int) [.slice p6 r1.length k6]]) n ⟨_,_,_,_,_,_,hF,rfl,h⟩ rfl ?_
 rintro m1 e1 w3 ⟨S2,p11,ln1,k11,x1,i1,hF,rfl,h⟩
 obtain rfl:=(h.sl 0 rfl).2
 rcases m1 with _|m1
 ·cases hF
 refine X0 5 rfl (qm rfl hF ?_ ?_)<;>intro hF
 ·refine zKSBSR ?_
  obtain ⟨y2,hy2,hF,he2,b2,_,q2,cs3,hp2,hq2,rfl,hc3⟩:=s9.ix hF
  refine zxe hp2 hq2 he2 rfl (zc 0 (hc3.below h.below) rfl (X0 6 rfl ?_))
  obtain ⟨y3,hy3,hF,he3,b3,_,q3,cs4,hp3,hq3,rfl,hc4⟩:=(h.sl 1 rfl).1.ix hF
  refine zx hp3 hq3 ⟨he3.1,qN he3.2.1 (h.sl 1 rfl).2⟩ rfl (zc 0 hc4 rfl (ql qb [.tmp 27] _ ([y3]:List Int) h rfl rfl rfl rfl rfl rfl rfl rfl rfl ⟨rfl,trivial⟩ rfl fun w4 p12 S3 h=>?_))
  obtain ⟨x2,hx1,hF⟩:=qe hF
  obtain ⟨g1,hx1⟩:=qw hx1
  refine qak qb 1 h rfl (h.sl 0 rfl).1 (h.sl 0 rfl).2 rfl rfl rfl rfl rfl rfl rfl rfl rfl g1 hx1 rfl fun w5 p13 k12 S4 h=>X0 7 rfl ?_
  replace h:=h.pick [1,2] rfl
  exact rK ⟨_,_,_,_,_,_,hF,rfl,h⟩ rfl
 refine qy rfl ?_
 obtain rfl:=qd hF;replace hF:=hK1
 refine X0 5 rfl ?_
 obtain rfl:=qd hF
 exact rO 0 h rfl ⟨rfl,trivial⟩
def qcO (x6:(List Int)) (i4:Int) (i5:Int) (y7:Int):Nat→(List qaT)→Int→Option ((List qaT) × Int)
 | 0,_,_=>none
 | n+1,x14,i6 =>
  bif decide (i6<2) then
   (idx x6 i4).bind fun y8 =>
   (appS x14 ([(⟨W64 ((W64 (2*y8))+i6),W64 ((W64 (2*y7))+i6),2,i5⟩:qaT)]:List qaT)).bind fun x15 =>
   qcO x6 i4 i5 y7 n x15 (W64 (i6+1))
  else
   some (x14,i6)
def qcJ (x6:(List Int)) (i4:Int) (y6:(List Int)):Nat→(List qaT)→Int→Option ((List qaT) × Int)
 | 0,_,_=>none
 | n+1,x13,i5 =>
  bif decide (i5<(y6.length:Int)) then
   (idx y6 i5).bind fun y7 =>
   (qcO x6 i4 i5 y7 n x13 0).bind fun o=>match o with
   | (x14,_) =>
    qcJ x6 i4 y6 n x14 (W64 (i5+1))
  else
   some (x13,i5)
def qdB (a_0:qc) (x5:(List (List Int))) (x6:(List Int)):Nat→(List (List Int))→(List Int)→(List qaT)→Int→Option ((List (List Int)) × (List Int) × (List qaT) × Int)
 | 0,_,_,_,_=>none
 | n+1,x8,x9,x10,i4 =>
  bif decide (i4<(a_0.Ah.length:Int)) then
   (qcx n a_0 i4).bind fun r4 =>
   (idx r4 0).bind fun y5 =>
   (appS x9 ([y5]:List Int)).bind fun x11 =>
   (qcW n a_0 i4).bind fun r5 =>
   (appS x8 ([r5]:List (List Int))).bind fun x12 =>
   (idx x5 i4).bind fun y6 =>
   (qcJ x6 i4 y6 n x10 0).bind fun o=>match o with
   | (x13,_) =>
    qdB a_0 x5 x6 n x12 x11 x13 (W64 (i4+1))
  else
   some (x8,x9,x10,i4)
def qcc (r1:(List Tplace)):Nat→(List (List Int))→(List Int)→Int→Option ((List (List Int)) × (List Int) × Int)
 | 0,_,_,_=>none
 | n+1,x5,x6,i3 =>
  bif decide (i3<(r1.length:Int)) then
   (idx r1 i3).bind fun y2 =>
   bif y2.drives then
    (idx x6 y2.net).bind fun _ =>
    qcc r1 n x5 (setS x6 y2.net i3) (W64 (i3+1))
   else
    (idx x5 y2.net).bind fun y4 =>
    (appS y4 ([i3]:List Int)).bind fun x7 =>
    qcc r1 n (setS x5 y2.net x7) x6 (W64 (i3+1))
  else
   some (x5,x6,i3)
def qdw (a_0:qc):Nat→(List qaT)→Int→Int→Option ((List qaT) × Int × Int)
 | 0,_,_,_=>none
 | n+1,x1,i1,i2 =>
  bif decide (i2<(a_0.Aa.Ab.length:Int)) then
   (idx a_0.Aa.Ab i2).bind fun y1 =>
   (qdD n a_0 y1 i1).bind fun r2 =>
   (appS x1 r2).bind fun x2 =>
   (qaW n y1.Aj).bind fun r3 =>
   qdw a_0 n x2 (W64 (i1+r3)) (W64 (i2+1))
  else
   some (x1,i1,i2)
def qfb (n:Nat) (a_0:qc):Option (Option Tview) :=
 (qbj n (⟨a_0.Aa.Ab,a_0.Aa.Aj,a_0.Aa.Af⟩:qg)).bind fun r1 =>
 (qdw a_0 n ([]:List qaT) 0 0).bind fun o=>match o with
 | (x1,_,_) =>
  (mkS (a_0.Ah.length:Int) (0:Int)).bind fun x3 =>
  (mkS (a_0.Ah.length:Int) ([]:(List Int))).bind fun x4 =>
  (qcc r1 n x4 x3 0).bind fun o=>match o with
  | (x5,x6,_) =>
   (qdB a_0 x5 x6 n ([]:List (List Int)) ([]:List Int) x1 0).bind fun o=>match o with
   | (x8,x9,x10,_) =>
    some (some (⟨(⟨(⟨a_0.Ac.Ai⟩:qj),(⟨a_0.Aa.Ab,a_0.Aa.Aj,a_0.Aa.Af⟩:qg),a_0.Ah⟩:qc),r1,x10,x9,x8,[]⟩:Tview))
theorem qgx {A:Nat→Prop} (hA:∀ b,A b→old w b) {a_0:qc} (ha1:GoT.R w A a_0 cs1) {r:(Option Tview)} (hF:qfb n a_0=some r):RetG Tryz.prog 37 [GoT.v qc cs1] w A r:=by
 obtain ⟨p1,k1,p2,k2,p3,k3,p4,k4,p5,k5,rfl,s1,s2,s3,s4,s5⟩:=qT ha1
 have hg:=Rg.start hA
 refine qgo Tryz.func37 rfl (m:=156) rfl rfl (fun h=>?_)
 refine zSR (qO h rfl rfl fun w1 bb1 h=>X0 3 rfl (rA [] [0] h rfl fun w2 h=>M2 7 [0,1,2] 0 0 (h.pick [0] rfl) rfl (Ao 3 15 rfl (zcL h hF (qci (qat _ (h.oldS (s2.mono hg.old)) (h.oldS (s3.mono hg.old)) (h.oldS (s4.mono hg.old)))) rfl fun r1 w3 S1 p6 k6 h hF=>Ag (h.pick [1] rfl) (Aw 4 31 (fun w' hw=>qah qb [0,1] [.tmp 15,.tmp 18] rfl rfl rfl rfl rfl rfl rfl rfl) (h.pick [1] rfl) rfl ?_)))))
 refine Ao 5 63 rfl (qO h rfl rfl fun w4 bb2 h=>G0 127 [6] (h.pick [2] rfl) rfl (Ad (X1 13 2 h rfl ?_)))
 replace h:=h.nil (α:=qaT)
 obtain ⟨o1,hF,hK1⟩:=qe hF
 refine qq (rL (fun m e w'=>∃ (S2:Nat→Prop) (p7:Option Addr) (ln1:Nat) (k7:Nat) (x1:(List qaT)) (i1:Int) (i2:Int),qdw a_0 m x1 i1 i2=some o1∧e=[(1,.pointer (some ⟨bb1,0,none⟩)),(3,.pointer (some ⟨bb2,0,none⟩)),(4,.int .i64 i1),(23,.slice p2 a_0.Aa.Ab.length k2),(24,.int .i64 (a_0.Aa.Ab.length:Int)),(25,.int .i64 i2)]∧SH w w' [Ch.own S2 (x1:List qaT) [.slice p7 ln1 k7],Ch.box bb2 [.slice p1 a_0.Ac.Ai.length k1,.slice p2 a_0.Aa.Ab.length k2,.slice p3 a_0.Aa.Aj.length k3,.slice p4 a_0.Aa.Af.length k4,.slice p5 a_0.Ah.length k5,.slice p6 r1.length k6,.slice p7 ln1 k7,.slice none 0 0,.slice none 0 0,.slice none 0 0] 119,Ch.own S1 (r1:List Tplace) [.slice p6 r1.length k6],Ch.box bb1 (qz a_0 p1 p2 p3 p4 p5 k1 k2 k3 k4 k5) 48]) n ⟨_,_,_,_,_,_,_,hF,rfl,h⟩ rfl ?_)
 rintro m1 e1 w5 ⟨S2,p7,ln1,k7,x1,i1,i2,hF,rfl,h⟩
 obtain rfl:=(h.sl 0 rfl).2
 rcases m1 with _|m1
 ·cases hF
 refine X0 5 rfl (qm rfl hF ?_ ?_)<;>intro hF
 ·refine zKSBSR ?_
  obtain ⟨y1,hy1,hF,he1,b1,_,q1,cs2,hp1,hq1,hr2,hc2⟩:=s2.ix hF
  obtain ⟨p8,k8,rfl,s6⟩:=qau hr2
  refine zxe hp1 hq1 he1 rfl (zc 0 (hc2.below h.below) rfl (qx qb h rfl rfl rfl fun w6 bb3 h=>zs 0 h rfl fun w7 h=>zNS (rA [12] [0,2,4] h rfl fun w8 h=>M3 255 [0,1,2,3,4,5,6,7] 1 2 0 (h.pick [0,2,4] rfl) rfl (Ao 8 511 rfl (zcL h hF (qhB (h.old (GoT.mono ha1 hg.old)) (qji y1 (h.oldS (s6.mono hg.old)))) rfl fun r2 w9 S3 p9 k9 h hF=>Ag (h.pick [1,3,5] rfl) (Ao 9 1023 rfl ?_))))))
  obtain ⟨x2,hx1,hF⟩:=qe hF
  obtain ⟨g1,hx1⟩:=qw hx1
  refine qak qb 2 h rfl (h.sl 0 rfl).1 (h.sl 0 rfl).2 rfl rfl rfl rfl rfl rfl rfl rfl rfl g1 hx1 rfl fun w10 p10 k10 S4 h=>Ag (h.pick [1,3,5] rfl) (Ao 10 2047 rfl (zp1 rfl (G0 4095 [11] (h.pick [1,3,5] rfl) rfl (Ao 12 8191 rfl (zs 3 h rfl fun w11 h=>qdR (fun hs=>absurd (hs 12 (by decide)) (by decide)) (Ad (X1 4 1 h rfl (zcI h hF (qbB ⟨_,_,rfl,(h.oldS (s6.mono hg.old))⟩) rfl fun r3 w12 h hF=>X0 8 rfl ?_))))))))
  replace h:=h.pick [2,3,4,5] rfl
  exact rK ⟨_,_,_,_,_,_,_,hF,rfl,h⟩ rfl
 refine qy rfl ?_
 obtain rfl:=qd hF;replace hF:=hK1
 refine X1 5 3 h rfl ?_
 obtain ⟨x3,hx2,hF⟩:=qe hF
 obtain ⟨g2,g3,hx2⟩:=qgr hx2
 refine qhq qb Int h rfl rfl rfl rfl rfl rfl rfl rfl rfl g2 g3 hx2 rfl fun w13 S5 p11 h=>X1 7 4 h rfl ?_
 obtain ⟨x4,hx3,hF⟩:=qe hF
 obtain ⟨g4,g5,hx3⟩:=qgr hx3
 refine qhq qb (List Int) h rfl rfl rfl rfl rfl rfl rfl rfl rfl g4 g5 hx3 rfl fun w14 S6 p12 h=>X1 12 3 h rfl ?_
 obtain ⟨o2,hF,hK2⟩:=qe hF
 refine qq (rL (fun m e w'=>∃ (S7:Nat→Prop) (x5:(List (List Int))) (x6:(List Int)) (i3:Int),qcc r1 m x5 x6 i3=some o2∧e=[(1,.pointer (some ⟨bb1,0,none⟩)),(3,.pointer (some ⟨bb2,0,none⟩)),(7,.slice p11 x3.length x3.length),(8,.slice p12 x4.length x4.length),(58,.slice p6 r1.length k6),(59,.int .i64 (r1.length:Int)),(60,.int .i64 i3)]∧SH w w' [Ch.own S7 (x5:List (List Int)) [.slice p12 x4.length x4.length],Ch.own S5 (x6:List Int) [.slice p11 x3.length x3.length],Ch.own S2 (x1:List qaT) [.slice p7 x1.length k7],Ch.box bb2 [.slice p1 a_0.Ac.Ai.length k1,.slice p2 a_0.Aa.Ab.length k2,.slice p3 a_0.Aa.Aj.length k3,.slice p4 a_0.Aa.Af.length k4,.slice p5 a_0.Ah.length k5,.slice p6 r1.length k6,.slice p7 x1.length k7,.slice none 0 0,.slice none 0 0,.slice none 0 0] 119,Ch.own S1 (r1:List Tplace) [.slice p6 r1.length k6],Ch.box bb1 (qz a_0 p1 p2 p3 p4 p5 k1 k2 k3 k4 k5) 48]) n ⟨_,_,_,_,hF,rfl,h⟩ rfl ?_)
 rintro m2 e2 w15 ⟨S7,x5,x6,i3,hF,rfl,h⟩
 rcases m2 with _|m2
 ·cases hF
 refine X0 5 rfl (qm rfl hF ?_ ?_)<;>intro hF
 ·refine X0 6 rfl ?_
  obtain ⟨y2,hy2,hF,he2,b2,_,q2,cs3,hp2,hq2,hr5,hc4⟩:=(h.sl 4 rfl).1.ix hF
  obtain rfl:=qdC hr5
  refine zx hp2 hq2 ⟨he2.1,qN he2.2.1 (h.sl 4 rfl).2⟩ rfl (zc 0 hc4 rfl (qx qb h rfl rfl rfl fun w16 bb4 h=>zp1 rfl (zs 0 h rfl fun w17 h=>X1 6 0 h rfl (qm rfl hF ?_ ?_))))<;>intro hF
  ·refine X1 5 0 h rfl ?_
   obtain ⟨y3,hy3,hF,he3,b3,_,q3,cs4,hp3,hq3,rfl,hc6⟩:=(h.sl 2 rfl).1.ix hF
   refine zx hp3 hq3 ⟨he3.1,qN he3.2.1 (h.sl 2 rfl).2⟩ rfl (qdF qb 2 0 i3 h rfl hy3 hp3 hq3 rfl hc6 rfl rfl rfl rfl rfl rfl rfl fun w18 h=>X0 6 rfl ?_)
   replace h:=h.pick [1,2,3,4,5,6] rfl
   exact rK ⟨_,_,_,_,hF,rfl,h⟩ rfl
  obtain ⟨y4,hy4,hF⟩:=qe hF
  have he4:=qax hy4
  replace h:=h.pick [1,0,2,3,4,5,6] rfl
  obtain ⟨S8,S9,cs5,h⟩:=h.take hy4
  obtain ⟨p13,k11,rfl,-⟩:=h.own 0 rfl
  refine rA [12] [1,2] h rfl fun w19 h=>M2 63 [0,1,2,3,4,5] 1 1 (h.pick [1,2] rfl) rfl ?_
  obtain ⟨b4,hp4,-,-,hl2⟩:=h.holeAt 1 rfl
  obtain ⟨q4,hq4⟩:∃ q,q=0+(y2.net).toNat*GoT.k (List Int):=⟨_,rfl⟩
  refine Ax 6 127 hp4 hq4 ⟨he4.1,qN he4.2.1 hl2⟩ (h.pick [1,2] rfl) rfl (Aw 7 255 (fun w' hw=>qeJ qb (qfy hw 0 rfl hp4 hq4) (j:=0) rfl rfl rfl) (h.pick [1,2] rfl) rfl ?_)
  refine M0 511 [8] (h.pick [1,2] rfl) rfl (Ao 9 1023 rfl (ql qb [.tmp 80] _ ([i3]:List Int) h rfl rfl rfl rfl rfl rfl rfl rfl rfl ⟨rfl,trivial⟩ rfl fun w20 p14 S10 h=>Ag (h.pick [2,3] rfl) (Ao 10 2047 rfl ?_)))
  obtain ⟨x7,hx4,hF⟩:=qe hF
  obtain ⟨g6,hx4⟩:=qw hx4
  refine qak qb 1 h rfl (h.sl 0 rfl).1 (h.sl 0 rfl).2 rfl rfl rfl rfl rfl rfl rfl rfl rfl g6 hx4 rfl fun w21 p15 k12 S11 h=>Ag (h.pick [2,3] rfl) ?_
  obtain ⟨b5,hp5,-,-,hl4⟩:=h.holeAt 2 rfl
  obtain ⟨q5,hq5⟩:∃ q,q=0+(y2.net).toNat*GoT.k (List Int):=⟨_,rfl⟩
  refine Ax 11 4095 hp5 hq5 ⟨he4.1,qN he4.2.1 hl4⟩ (h.pick [2,3] rfl) rfl (Ao 12 8191 rfl (qhQ qb 2 0 h rfl hp5 hq5 rfl rfl rfl rfl rfl rfl fun w22 h=>?_))
  replace h:SH _ _ [Ch.own S10 (([i3]:List Int):List Int) [.slice p14 1 1],Ch.own S11 (x7:List Int) [.slice p15 x7.length k12],Ch.hole S9 (x5:List (List Int)) p12 x4.length x4.length (y2.net).toNat [.slice p15 x7.length k12],Ch.box bb4 (qkZ y2) 115,Ch.own S5 (x6:List Int) [.slice p11 x3.length x3.length],Ch.own S2 (x1:List qaT) [.slice p7 x1.length k7],Ch.box bb2 [.slice p1 a_0.Ac.Ai.length k1,.slice p2 a_0.Aa.Ab.length k2,.slice p3 a_0.Aa.Aj.length k3,.slice p4 a_0.Aa.Af.length k4,.slice p5 a_0.Ah.length k5,.slice p6 r1.length k6,.slice p7 x1.length k7,.slice none 0 0,.slice none 0 0,.slice none 0 0] 119,Ch.own S1 (r1:List Tplace) [.slice p6 r1.length k6],Ch.box bb1 (qz a_0 p1 p2 p3 p4 p5 k1 k2 k3 k4 k5) 48]:=h
  refine qdR (fun hs=>absurd (hs 12 (by decide)) (by decide)) (Ad (X0 5 rfl ?_))
  replace h:=h.pick [1,2,0,3,4,5,6,7,8] rfl
  replace h:=h.put
  obtain ⟨S12,h⟩:=qh1 (S:=_) h
  replace h:=h.pick [0,3,4,5,6,7] rfl
  exact rK ⟨_,_,_,_,hF,rfl,h⟩ rfl
 refine qy rfl ?_
 obtain rfl:=qd hF;replace hF:=hK2
 refine X1 8 5 h rfl ?_
 replace h:=h.nil (α:=Int)
 replace h:=h.nil (α:=(List Int))
 obtain ⟨o3,hF,hK3⟩:=qe hF
 refine qq (rL (fun m e w'=>∃ (S13:Nat→Prop) (p16:Option Addr) (ln2:Nat) (k13:Nat) (x8:(List (List Int))) (S14:Nat→Prop) (p17:Option Addr) (ln3:Nat) (k14:Nat) (x9:(List Int)) (S15:Nat→Prop) (p18:Option Addr) (ln4:Nat) (k15:Nat) (x10:(List qaT)) (i4:Int),qdB a_0 x5 x6 m x8 x9 x10 i4=some o3∧e=[(1,.pointer (some ⟨bb1,0,none⟩)),(3,.pointer (some ⟨bb2,0,none⟩)),(7,.slice p11 x3.length x3.length),(8,.slice p12 x4.length x4.length),(87,.int .i64 (a_0.Ah.length:Int)),(88,.int .i64 i4)]∧SH w w' [Ch.own S13 (x8:List (List Int)) [.slice p16 ln2 k13],Ch.own S14 (x9:List Int) [.slice p17 ln3 k14],Ch.own S7 (x5:List (List Int)) [.slice p12 x4.length x4.length],Ch.own S5 (x6:List Int) [.slice p11 x3.length x3.length],Ch.own S15 (x10:List qaT) [.slice p18 ln4 k15],Ch.box bb2 [.slice p1 a_0.Ac.Ai.length k1,.slice p2 a_0.Aa.Ab.length k2,.slice p3 a_0.Aa.Aj.length k3,.slice p4 a_0.Aa.Af.length k4,.slice p5 a_0.Ah.length k5,.slice p6 r1.length k6,.slice p18 ln4 k15,.slice p17 ln3 k14,.slice p16 ln2 k13,.slice none 0 0] 119,Ch.own S1 (r1:List Tplace) [.slice p6 r1.length k6],Ch.box bb1 (qz a_0 p1 p2 p3 p4 p5 k1 k2 k3 k4 k5) 48]) n ⟨_,_,_,_,_,_,_,_,_,_,_,_,_,_,_,_,hF,rfl,h⟩ rfl ?_)
 rintro m3 e3 w23 ⟨S13,p16,ln2,k13,x8,S14,p17,ln3,k14,x9,S15,p18,ln4,k15,x10,i4,hF,rfl,h⟩
 obtain rfl:=(h.sl 0 rfl).2
 obtain rfl:=(h.sl 1 rfl).2
 obtain rfl:=(h.sl 4 rfl).2
 rcases m3 with _|m3
 ·cases hF
 refine X0 5 rfl (qm rfl hF ?_ ?_)<;>intro hF
 ·refine X0 9 rfl (rA [14] [5,7] h rfl fun w24 h=>M2 127 [0,1,2,3,4,5,6] 0 1 (h.pick [5,7] rfl) rfl (Ao 7 255 rfl (zcL h hF (qd0 (h.old (GoT.mono ha1 hg.old))) rfl fun r4 w25 S16 p19 k16 h hF=>Ag (h.pick [6,8] rfl) ?_)))
  obtain ⟨y5,hy5,hF,he5,b6,_,q6,cs6,hp6,hq6,rfl,hc8⟩:=(h.sl 0 rfl).1.ix hF
  refine Ax 8 511 hp6 hq6 ⟨he5.1,qN he5.2.1 (h.sl 0 rfl).2⟩ (h.pick [6,8] rfl) rfl (Ao 9 1023 rfl (zc 0 hc8 rfl (Ag (h.pick [6,8] rfl) (Ao 10 2047 rfl (ql qb [.tmp 100] _ ([y5]:List Int) h rfl rfl rfl rfl rfl rfl rfl rfl rfl ⟨rfl,trivial⟩ rfl fun w26 p20 S17 h=>Ag (h.pick [7,9] rfl) (Ao 11 4095 rfl ?_))))))
  obtain ⟨x11,hx5,hF⟩:=qe hF
  obtain ⟨g7,hx5⟩:=qw hx5
  refine qak qb 3 h rfl (h.sl 0 rfl).1 (h.sl 0 rfl).2 rfl rfl rfl rfl rfl rfl rfl rfl rfl g7 hx5 rfl fun w27 p21 k17 S18 h=>Ag (h.pick [7,9] rfl) (Ao 12 8191 rfl (zp1 rfl (G0 16383 [13] (h.pick [7,9] rfl) rfl (Ao 14 32767 rfl (zs 7 h rfl fun w28 h=>qdR (fun hs=>absurd (hs 14 (by decide)) (by decide)) (Ad (qeK (rA [12] [7,9] h rfl fun w29 h=>M2 127 [0,1,2,3,4,5,6] 0 1 (h.pick [7,9] rfl) rfl (Ao 7 255 rfl (zcL h hF (qhc (h.old (GoT.mono ha1 hg.old))) rfl fun r5 w30 S19 p22 k18 h hF=>Ag (h.pick [8,10] rfl) (Ao 8 511 rfl (qdf qb [.tmp 112] _ ([r5]:List (List Int)) [1,2,3,4,5,6,7,8,9,10] h rfl rfl rfl rfl rfl rfl rfl rfl rfl (qbQ (qB 0 h rfl) qe6 rfl) rfl rfl fun w31 p23 S20 h=>Ag (h.pick [8,10] rfl) (Ao 9 1023 rfl ?_)))))))))))))
  obtain ⟨x12,hx6,hF⟩:=qe hF
  obtain ⟨g8,hx6⟩:=qw hx6
  replace h:=h.pick [0,3,1,2,4,5,6,7,8,9,10] rfl
  refine qi0 qb h rfl rfl rfl rfl rfl rfl rfl rfl rfl g8 hx6 rfl fun w32 p24 k19 S21 h=>Ag (h.pick [7,9] rfl) (Ao 10 2047 rfl (zp1 rfl (G0 4095 [11] (h.pick [7,9] rfl) rfl (Ao 12 8191 rfl (zs 7 h rfl fun w33 h=>qdR (fun hs=>absurd (hs 12 (by decide)) (by decide)) (Ad (X0 4 rfl ?_)))))))
  obtain ⟨y6,hy6,hF⟩:=qe hF
  have he6:=qax hy6
  replace h:=h.lrn0 4 rfl
  obtain ⟨b7,o_5,q7,cs7,hp7,hq7,-,hr10,hc9⟩:=(qfT (h.lrnO 4 rfl)).1.at hy6
  have hr11:=hr10
  obtain ⟨p25,k20,rfl,s7⟩:=hr10
  replace h:=h.lrnAdd 4 rfl hr11
  refine zx hp7 hq7 ⟨he6.1,qN he6.2.1 (qfT (h.lrnO 4 rfl)).2⟩ rfl (zc 0 hc9 rfl (X0 3 rfl ?_))
  obtain ⟨o4,hF,hK4⟩:=qe hF
  refine qq ?_
  replace h:=h.pick [0,3,4,5,6,7,8,9] rfl
  refine rL (fun m e w'=>∃ (S22:Nat→Prop) (p26:Option Addr) (ln5:Nat) (k21:Nat) (x13:(List qaT)) (i5:Int),qcJ x6 i4 y6 m x13 i5=some o4∧e=[(1,.pointer (some ⟨bb1,0,none⟩)),(3,.pointer (some ⟨bb2,0,none⟩)),(7,.slice p11 x3.length x3.length),(8,.slice p12 x4.length x4.length),(11,.int .i64 i4),(87,.int .i64 (a_0.Ah.length:Int)),(88,.int .i64 i4),(120,.slice p25 y6.length k20),(121,.int .i64 (y6.length:Int)),(122,.int .i64 i5)]∧SH w w' [Ch.own S21 (x12:List (List Int)) [.slice p24 x12.length k19],Ch.own S18 (x11:List Int) [.slice p21 x11.length k17],Ch.lrn S7 (x5:List (List Int)) [.slice p12 x4.length x4.length] [fct (y6:(List Int)) [.slice p25 y6.length k20]],Ch.own S5 (x6:List Int) [.slice p11 x3.length x3.length],Ch.own S22 (x13:List qaT) [.slice p26 ln5 k21],Ch.box bb2 [.slice p1 a_0.Ac.Ai.length k1,.slice p2 a_0.Aa.Ab.length k2,.slice p3 a_0.Aa.Aj.length k3,.slice p4 a_0.Aa.Af.length k4,.slice p5 a_0.Ah.length k5,.slice p6 r1.length k6,.slice p26 ln5 k21,.slice p21 x11.length k17,.slice p24 x12.length k19,.slice none 0 0] 119,Ch.own S1 (r1:List Tplace) [.slice p6 r1.length k6],Ch.box bb1 (qz a_0 p1 p2 p3 p4 p5 k1 k2 k3 k4 k5) 48]) m3 ⟨_,_,_,_,_,_,hF,rfl,h⟩ rfl ?_
  rintro m4 e4 w34 ⟨S22,p26,ln5,k21,x13,i5,hF,rfl,h⟩
  obtain rfl:=(h.sl 4 rfl).2
  rcases m4 with _|m4
  ·cases hF
  refine X0 5 rfl (qm rfl hF ?_ ?_)<;>intro hF
  ·refine X0 6 rfl ?_
   obtain ⟨y7,hy7,hF,he7,b8,_,q8,cs8,hp8,hq8,rfl,hc11⟩:=(qfT (GoT.mono (h.lrnS 2 0 rfl rfl) (h.lrnB 2 rfl))).1.ix hF
   refine zx hp8 hq8 ⟨he7.1,qN he7.2.1 (qfT (GoT.mono (h.lrnS 2 0 rfl rfl) (h.lrnB 2 rfl))).2⟩ rfl (zc 0 hc11 rfl (X0 7 rfl ?_))
   obtain ⟨o5,hF,hK5⟩:=qe hF
   refine qq (rL (fun m e w'=>∃ (S23:Nat→Prop) (p27:Option Addr) (ln6:Nat) (k22:Nat) (x14:(List qaT)) (i6:Int),qcO x6 i4 i5 y7 m x14 i6=some o5∧e=[(1,.pointer (some ⟨bb1,0,none⟩)),(3,.pointer (some ⟨bb2,0,none⟩)),(7,.slice p11 x3.length x3.length),(8,.slice p12 x4.length x4.length),(11,.int .i64 i4),(12,.int .i64 i5),(13,.int .i64 y7),(87,.int .i64 (a_0.Ah.length:Int)),(88,.int .i64 i4),(120,.slice p25 y6.length k20),(121,.int .i64 (y6.length:Int)),(122,.int .i64 i5),(127,.int .i64 i6)]∧SH w w' [Ch.own S21 (x12:List (List Int)) [.slice p24 x12.length k19],Ch.own S18 (x11:List Int) [.slice p21 x11.length k17],Ch.lrn S7 (x5:List (List Int)) [.slice p12 x4.length x4.length] [fct (y6:(List Int)) [.slice p25 y6.length k20]],Ch.own S5 (x6:List Int) [.slice p11 x3.length x3.length],Ch.own S23 (x14:List qaT) [.slice p27 ln6 k22],Ch.box bb2 [.slice p1 a_0.Ac.Ai.length k1,.slice p2 a_0.Aa.Ab.length k2,.slice p3 a_0.Aa.Aj.length k3,.slice p4 a_0.Aa.Af.length k4,.slice p5 a_0.Ah.length k5,.slice p6 r1.length k6,.slice p27 ln6 k22,.slice p21 x11.length k17,.slice p24 x12.length k19,.slice none 0 0] 119,Ch.own S1 (r1:List Tplace) [.slice p6 r1.length k6],Ch.box bb1 (qz a_0 p1 p2 p3 p4 p5 k1 k2 k3 k4 k5) 48]) m4 ⟨_,_,_,_,_,_,hF,rfl,h⟩ rfl ?_)
   rintro m5 e5 w35 ⟨S23,p27,ln6,k22,x14,i6,hF,rfl,h⟩
   obtain rfl:=(h.sl 4 rfl).2
   rcases m5 with _|m5
   ·cases hF
   refine X0 5 rfl (qm rfl hF ?_ ?_)<;>intro hF
   ·refine X0 8 rfl (rA [22] [3,5] h rfl fun w36 h=>M1 127 [0,1,2,3,4,5,6] 1 (h.pick [3,5] rfl) rfl ?_)
    obtain ⟨y8,hy8,hF,he8,b9,_,q9,cs9,hp9,hq9,rfl,hc13⟩:=(h.sl 3 rfl).1.ix hF
    refine Ax 7 255 hp9 hq9 ⟨he8.1,qN he8.2.1 (h.sl 3 rfl).2⟩ (h.pick [3,5] rfl) rfl (Aw 8 511 (fun w' hw=>qeJ qb (qcl (w1:=w) (S1:=fun _=>False) hw 0 rfl hy8 hp9 hq9 rfl) (j:=0) rfl rfl rfl) (h.pick [3,5] rfl) rfl ?_)
    refine M0 131071 [9,10,11,12,13,14,15,16] (h.pick [3,5] rfl) rfl (Aw 17 262143 (fun w' hw=>qah qb [0,1,2,3] [.tmp 141,.tmp 145,.const (.int .i64 (2)),.tmp 146] rfl rfl rfl rfl rfl rfl rfl rfl) (h.pick [3,5] rfl) rfl ?_)
    refine Ao 18 524287 rfl (ql qb [.tmp 147] _ ([(⟨W64 ((W64 (2*y8))+i6),W64 ((W64 (2*y7))+i6),2,i5⟩:qaT)]:List qaT) h rfl rfl rfl rfl rfl rfl rfl rfl rfl ⟨(qlI (⟨W64 ((W64 (2*y8))+i6),W64 ((W64 (2*y7))+i6),2,i5⟩:qaT)),trivial⟩ rfl fun w37 p28 S24 h=>Ag (h.pick [4,6] rfl) (Ao 19 1048575 rfl ?_))
    obtain ⟨x15,hx7,hF⟩:=qe hF
    obtain ⟨g9,hx7⟩:=qw hx7
    refine qak qb 5 h rfl (h.sl 0 rfl).1 (h.sl 0 rfl).2 rfl rfl rfl rfl rfl rfl rfl rfl rfl g9 hx7 rfl fun w38 p29 k23 S25 h=>Ag (h.pick [4,6] rfl) (Ao 20 2097151 rfl (zp1 rfl (G0 4194303 [21] (h.pick [4,6] rfl) rfl (Ao 22 8388607 rfl (zs 6 h rfl fun w39 h=>qdR (fun hs=>absurd (hs 22 (by decide)) (by decide)) (Ad (X0 5 rfl ?_)))))))
    replace h:=h.pick [1,2,3,4,5,6,7,8] rfl
    exact rK ⟨_,_,_,_,_,_,hF,rfl,h⟩ rfl
   refine qy rfl ?_
   obtain rfl:=qd hF;replace hF:=hK5
   exact X0 5 rfl (rK ⟨_,_,_,_,_,_,hF,rfl,h⟩ rfl)
  refine qy rfl ?_
  obtain rfl:=qd hF;replace hF:=hK4
  refine X0 5 rfl ?_
  replace h:=h.unlrn 2 rfl
  exact rK ⟨_,_,_,_,_,_,_,_,_,_,_,_,_,_,_,_,hF,rfl,h⟩ rfl
 refine qy rfl ?_
 obtain rfl:=qd hF;replace hF:=hK3
 refine X0 5 rfl ?_
 obtain rfl:=qd hF
 have hv1:GoRs.Rs (ρ:=(Option Tview)) h.wc (reg A w h.wc) (some (⟨(⟨(⟨a_0.Ac.Ai⟩:qj),(⟨a_0.Aa.Ab,a_0.Aa.Aj,a_0.Aa.Af⟩:qg),a_0.Ah⟩:qc),r1,x10,x9,x8,[]⟩:Tview)) [GoT.v (Option Tview) [.pointer (some ⟨bb2,0,none⟩)]]:=⟨_,rfl,(hg.outR h (Rg.boxR (x:=(⟨(⟨(⟨a_0.Ac.Ai⟩:qj),(⟨a_0.Aa.Ab,a_0.Aa.Aj,a_0.Aa.Af⟩:qg),a_0.Ah⟩:qc),r1,x10,x9,x8,[]⟩:Tview)) 5 h rfl (show GoT.R _ _ ((⟨(⟨(⟨a_0.Ac.Ai⟩:qj),(⟨a_0.Aa.Ab,a_0.Aa.Aj,a_0.Aa.Af⟩:qg),a_0.Ah⟩:qc),r1,x10,x9,x8,[]⟩:Tview):Tview) _ from ⟨[.slice p1 a_0.Ac.Ai.length k1,.slice p2 a_0.Aa.Ab.length k2,.slice p3 a_0.Aa.Aj.length k3,.slice p4 a_0.Aa.Af.length k4,.slice p5 a_0.Ah.length k5],[.slice p6 r1.length k6,.slice p18 x10.length k15,.slice p17 x9.length k14,.slice p16 x8.length k13,.slice none 0 0],rfl,⟨[.slice p1 a_0.Ac.Ai.length k1],[.slice p2 a_0.Aa.Ab.length k2,.slice p3 a_0.Aa.Aj.length k3,.slice p4 a_0.Aa.Af.length k4,.slice p5 a_0.Ah.length k5],rfl,⟨_,_,rfl,(hg.inS h s1)⟩,⟨[.slice p2 a_0.Aa.Ab.length k2,.slice p3 a_0.Aa.Aj.length k3,.slice p4 a_0.Aa.Af.length k4],[.slice p5 a_0.Ah.length k5],rfl,⟨[.slice p2 a_0.Aa.Ab.length k2],[.slice p3 a_0.Aa.Aj.length k3,.slice p4 a_0.Aa.Af.length k4],rfl,⟨_,_,rfl,(hg.inS h s2)⟩,⟨[.slice p3 a_0.Aa.Aj.length k3],[.slice p4 a_0.Aa.Af.length k4],rfl,⟨_,_,rfl,(hg.inS h s3)⟩,⟨_,_,rfl,(hg.inS h s4)⟩⟩⟩,⟨_,_,rfl,(hg.inS h s5)⟩⟩⟩,⟨[.slice p6 r1.length k6],[.slice p18 x10.length k15,.slice p17 x9.length k14,.slice p16 x8.length k13,.slice none 0 0],rfl,(Rg.ownR 6 h rfl),⟨[.slice p18 x10.length k15],[.slice p17 x9.length k14,.slice p16 x8.length k13,.slice none 0 0],rfl,(Rg.ownR 4 h rfl),⟨[.slice p17 x9.length k14],[.slice p16 x8.length k13,.slice none 0 0],rfl,(Rg.ownR 1 h rfl),⟨[.slice p16 x8.length k13],[.slice none 0 0],rfl,(Rg.ownR 0 h rfl),⟨_,_,rfl,qgS⟩⟩⟩⟩⟩⟩)))⟩
 exact qiV qb (ρ:=(Option Tview)) (r:=(some (⟨(⟨(⟨a_0.Ac.Ai⟩:qj),(⟨a_0.Aa.Ab,a_0.Aa.Aj,a_0.Aa.Af⟩:qg),a_0.Ah⟩:qc),r1,x10,x9,x8,[]⟩:Tview))) [GoT.v (Option Tview) [.pointer (some ⟨bb2,0,none⟩)]] h ⟨rfl,trivial⟩ hv1
def qbY (_:Nat) (list:(List Tplace)):Option Int :=
 some (list.length:Int)
theorem qhd {list:(List Tplace)} (ha1:GoT.R w (old w) list cs1) {r:Int} (hF:qbY n list=some r):RetV Tryz.prog 77 [GoT.v (List Tplace) cs1] w r:=by
 obtain ⟨p1,k1,rfl,s1⟩:=ha1
 exact zV 5 Tryz.func77 rfl fun h=>X0 10 rfl (ri h hF rfl)
def qgH (n:Nat) (kind:Int) (value:Int):Option Bool :=
 bif (kind==1) then some (value==0) else
 bif (kind==2) then
  (qaA n value 1 10).bind fun r1 =>
  some r1
 else
  bif (kind==3) then
   bif (kind==3) then
    (qaA n value 0 1000000000).bind fun r2 =>
    some r2
   else
    some false
  else
   bif (kind==4) then
    (qaA n value 0 1000000000).bind fun r3 =>
    some r3
   else
    some false
theorem qkw {kind:Int} {value:Int}  {r:Bool} (hF:qgH n kind value=some r):RetV Tryz.prog 78 [.int .i64 kind,.int .i64 value] w r:=by
 refine zV 19 Tryz.func78 rfl fun h=>X0 15 rfl (qm rfl hF ?_ ?_)<;>intro hF
 ·exact X0 6 rfl (rb h hF rfl)
 refine X0 5 rfl (qm rfl hF ?_ ?_)<;>intro hF
 ·exact X0 3 rfl (zcB h hF qao rfl fun r1 w1 h hF=>X0 2 rfl (rb h hF rfl))
 refine X0 6 rfl (qm rfl hF ?_ ?_)<;>intro hF
 ·refine qcV (qm rfl hF ?_ ?_)<;>intro hF
  ·exact X0 3 rfl (zcB h hF qao rfl fun r2 w2 h hF=>X0 2 rfl (rb h hF rfl))
  exact X0 6 rfl (rb h hF rfl)
 refine X0 4 rfl (qm rfl hF ?_ ?_)<;>intro hF
 ·exact X0 3 rfl (zcB h hF qao rfl fun r3 w3 h hF=>X0 2 rfl (rb h hF rfl))
 exact X0 6 rfl (rb h hF rfl)
def qad (v:(Option Tview)) (a_e:qa):Nat→Int→Option (Flow Bool Int)
 | 0,_=>none
 | n+1,i1 =>
  bif decide (i1<((3:Nat):Int)) then
   (idx ([a_e.Au,a_e.Ap,a_e.To]:List (List Int)) i1).bind fun y1 =>
   bif decide ((y1.length:Int) > 4) then some (.ret false) else
   (v).bind fun y2 =>
   (qbY n y2.places).bind fun r1 =>
   (qbl n y1 0 (W64 (r1-1))).bind fun r2 =>
   bif (!r2) then some (.ret false) else
   qad v a_e n (W64 (i1+1))
  else
   some (.nxt i1)
def qaO (n:Nat) (v:(Option Tview)) (a_e:qa):Option Bool :=
 (qad v a_e n 0).bind fun o=>match o with
 | .ret r=>some r
 | .nxt _ =>
  (qgH n a_e.Am a_e.Az).bind fun r3 =>
  bif r3 then
   (qcG n a_e.Au).bind fun r4 =>
   bif r4 then
    (qcG n a_e.To).bind fun r5 =>
    some r5
   else
    some false
  else
   some false
theorem qdU {v:(Option Tview)} {a_e:qa} (ha1:GoT.R w (old w) v cs1) (ha2:GoT.R w (old w) a_e cs2) {r:Bool} (hF:qaO n v a_e=some r):RetV Tryz.prog 38 [GoT.v (Option Tview) cs1,GoT.v qa cs2] w r:=by
 obtain ⟨p1,rfl,s1⟩:=qhO ha1
 obtain ⟨p2,k1,p3,k2,p4,k3,rfl,s2,s3,s4⟩:=qX ha2
 refine zV 49 Tryz.func38 rfl fun h=>zSR (qO h rfl rfl fun w1 bb1 h=>X3 11 0 0 0 h rfl (qj6 qb [.tmp 8,.tmp 10,.tmp 12] _ ([a_e.Au,a_e.Ap,a_e.To]:List (List Int)) h rfl rfl rfl rfl rfl rfl rfl rfl rfl ⟨⟨_,_,rfl,s2⟩,⟨_,_,rfl,s3⟩,⟨_,_,rfl,s4⟩,trivial⟩ rfl fun w2 p5 S1 h=>X0 3 rfl ?_))
 obtain ⟨o1,hF,hK1⟩:=qe hF
 refine qq (rL (fun m e w'=>∃ (i1:Int),qad v a_e m i1=some o1∧e=[(0,.pointer p1),(3,.pointer (some ⟨bb1,0,none⟩)),(13,.slice p5 3 3),(14,.int .i64 ((3:Nat):Int)),(15,.int .i64 i1)]∧SH w w' [Ch.rowD w S1 (([a_e.Au,a_e.Ap,a_e.To]:List (List Int)):List (List Int)) p5 3,Ch.box bb1 (qbo a_e p2 p3 p4 k1 k2 k3) 50]) n ⟨_,hF,rfl,h⟩ rfl ?_)
 rintro m1 e1 w3 ⟨i1,hF,rfl,h⟩
 rcases m1 with _|m1
 ·cases hF
 refine X0 5 rfl (qm rfl hF ?_ ?_)<;>intro hF
 ·refine zKSBSR ?_
  obtain ⟨y1,hy1,hF⟩:=qe hF
  have he1:=qax hy1
  obtain ⟨b1,o_1,q1,cs3,hp1,hq1,-,hr1,hc2⟩:=h.atD 0 rfl hy1
  obtain ⟨p6,k4,rfl,s5⟩:=hr1
  refine zxe hp1 hq1 he1 rfl (zc 0 hc2 rfl (X0 8 rfl (qi (t:=22) hF rfl ?_ ?_)))<;>intro hF
  ·refine X0 11 rfl (qdP rfl rfl (X0 4 rfl ?_))
   obtain rfl:=qd hF;replace hF:=hK1
   exact rb h hF rfl
  refine X0 5 rfl ?_
  obtain ⟨y2,hy2,hF⟩:=qe hF
  obtain ⟨b2,o_2,cs4,rfl,-,hr2,hc3⟩:=PtR.get s1 hy2
  obtain ⟨p7,k5,p8,k6,p9,k7,p10,k8,p11,k9,p12,k10,p13,k11,p14,k12,p15,k13,p16,k14,rfl,s6,s7,s8,s9,s10,s11,s12,s13,s14,s15⟩:=qjl hr2
  refine X0 4 rfl (zc 5 (hc3.below h.below) rfl (X0 1 rfl (zcI h hF (qhd ⟨_,_,rfl,(h.oldS s11)⟩) rfl fun r1 w4 h hF=>X0 3 rfl (zcB h hF (qbV ⟨_,_,rfl,(h.oldS s5)⟩) rfl fun r2 w5 h hF=>X0 4 rfl (qm rfl hF ?_ ?_)))))<;>intro hF
  ·refine X0 4 rfl ?_
   obtain rfl:=qd hF;replace hF:=hK1
   exact rb h hF rfl
  exact X0 6 rfl (rK ⟨_,hF,rfl,h⟩ rfl)
 refine qy rfl ?_
 obtain rfl:=qd hF;replace hF:=hK1
 refine X2 6 1 1 h rfl (zcB h hF qkw rfl fun r3 w6 h hF=>zp1 rfl (qi (t:=39) hF rfl ?_ ?_))<;>intro hF
 ·refine X1 5 1 h rfl (zcB h hF (qeV ⟨_,_,rfl,(h.oldS s2)⟩) rfl fun r4 w7 h hF=>zp2 rfl (qi (t:=44) hF rfl ?_ ?_))<;>intro hF
  ·exact X1 5 1 h rfl (zcB h hF (qeV ⟨_,_,rfl,(h.oldS s4)⟩) rfl fun r5 w8 h hF=>X0 3 rfl (rb h hF rfl))
  exact X0 6 rfl (rb h hF rfl)
 exact X0 11 rfl (rb h hF rfl)
def qeH (n:Nat) (l:qj) (d:qg) (place:Int):Option (Tl05Place × Bool) :=
 (qev n l d).bind fun r1 =>
 bif (!r1) then some ((⟨0,0,0,false⟩:Tl05Place),false) else
 (qbS n d).bind fun r2 =>
 (qam n place 0 (W64 ((r2.length:Int)-1))).bind fun r3 =>
 bif (!r3) then some ((⟨0,0,0,false⟩:Tl05Place),false) else
 (idx r2 place).bind fun y1 =>
 some (y1,true)
theorem qgg {l:qj} {d:qg} {place:Int} (ha1:GoT.R w (old w) l cs1) (ha2:GoT.R w (old w) d cs2) {r:(Tl05Place × Bool)} (hF:qeH n l d place=some r):RetV Tryz.prog 105 [GoT.v qj cs1,GoT.v qg cs2,.int .i64 place] w r:=by
 obtain ⟨p1,k1,rfl,s1⟩:=qaK ha1
 obtain ⟨p2,k2,p3,k3,p4,k4,rfl,s2,s3,s4⟩:=qZ ha2
 refine zV 27 Tryz.func105 rfl fun h=>zSR (qO h rfl rfl fun w1 bb1 h=>qO h rfl rfl fun w2 bb2 h=>qx qb h rfl rfl rfl fun w3 bb3 h=>X2 7 2 1 h rfl (zcB h hF (qhK (h.old ha1) (h.old ha2)) rfl fun r1 w4 h hF=>X0 2 rfl (qm rfl hF ?_ ?_)))<;>intro hF
 ·refine zSR (r_v (qah qb [] [] rfl rfl rfl rfl rfl rfl rfl rfl) rfl (zs 0 h rfl fun w5 h=>X0 2 rfl ?_))
  obtain rfl:=qd hF
  exact qbn qb (ρ:=(Tl05Place × Bool)) [GoT.v Tl05Place [.int .i64 0,.int .i64 0,.int .i64 0,.bool false],GoT.v Bool [.bool false]] h ⟨⟨_,_,_,rfl,rfl,h.box 0 rfl,rfl⟩,rfl,trivial⟩ (PV.done h (qdZ h (qC (S:=fun _=>False) (qfi (⟨0,0,0,false⟩:Tl05Place))) (qdq (qC (S:=fun _=>False) rfl)) (by rfl)))
 refine X1 4 1 h rfl (zcL h hF (qdK (h.old ha2)) rfl fun r2 w6 S1 p5 k5 h hF=>X0 9 rfl (zcB h hF qU rfl fun r3 w7 h hF=>X0 2 rfl (qm rfl hF ?_ ?_)))<;>intro hF
 ·refine zSR (r_v (qah qb [] [] rfl rfl rfl rfl rfl rfl rfl rfl) rfl (zs 1 h rfl fun w8 h=>X0 2 rfl ?_))
  obtain rfl:=qd hF
  exact qbn qb (ρ:=(Tl05Place × Bool)) [GoT.v Tl05Place [.int .i64 0,.int .i64 0,.int .i64 0,.bool false],GoT.v Bool [.bool false]] h ⟨⟨_,_,_,rfl,rfl,h.box 1 rfl,rfl⟩,rfl,trivial⟩ (PV.done h (qdZ h (qC (S:=fun _=>False) (qfi (⟨0,0,0,false⟩:Tl05Place))) (qdq (qC (S:=fun _=>False) rfl)) (by rfl)))
 refine X0 5 rfl ?_
 obtain ⟨y1,hy1,hF,he1,b1,_,q1,cs3,hp1,hq1,hr4,hc3⟩:=(h.sl 0 rfl).1.ix hF
 obtain rfl:=qbk hr4
 refine zx hp1 hq1 ⟨he1.1,qN he1.2.1 (h.sl 0 rfl).2⟩ rfl (zc 0 hc3 rfl (zs 1 h rfl fun w9 h=>X0 2 rfl ?_))
 obtain rfl:=qd hF
 exact qbn qb (ρ:=(Tl05Place × Bool)) [GoT.v Tl05Place (qgq y1),GoT.v Bool [.bool true]] h ⟨⟨_,_,_,rfl,rfl,h.box 1 rfl,rfl⟩,rfl,trivial⟩ (PV.done h (qdZ h (qC (S:=fun _=>False) (qfi y1)) (qdq (qC (S:=fun _=>False) rfl)) (by rfl)))
end Go.Fw


namespace Go.Fw
open Go Go.Proofs
open Go.RowKit (Below)
set_option maxRecDepth 100000
set_option maxHeartbeats 6400000
variable {n:Nat} {w:World} {cs1 cs2 cs3 cs4 cs5 cs6 cs7 cs8 cs9:List Value}
end Go.Fw


namespace Go.Fw
open Go Go.Proofs
open Go.RowKit (Below)
set_option maxRecDepth 100000
set_option maxHeartbeats 6400000
variable {n:Nat} {w:World} {cs1 cs2 cs3 cs4 cs5 cs6 cs7 cs8 cs9:List Value}
def qS:Nat→Int→Option ByteArray
 | 0,_=>none
 | n+1,a_n =>
  bif decide (a_n<0) then
   ((qS n) (W64 (0-a_n))).bind fun r1 =>
   (catB (⟨#[45]⟩:ByteArray) r1).bind fun z1 =>
   some z1
  else
   bif decide (a_n<10) then some (strOf ([(⟨IntKind.wrap .u8 (W64 (48+a_n))⟩:IntK .u8)]:List (IntK .u8))) else
   ((qS n) (W64 (a_n.tdiv 10))).bind fun r2 =>
   (catB r2 (strOf ([(⟨IntKind.wrap .u8 (W64 (48+(a_n.tmod 10)))⟩:IntK .u8)]:List (IntK .u8)))).bind fun z2 =>
   some z2
theorem qhn {n:Nat}:∀ {w:World} {a_n:Int}  {r:ByteArray} (_:qS n a_n=some r),RetV Tryz.prog 30 [.int .i64 a_n] w r:=by
 induction n with
 | zero=>intro w a_n r hF;rw [qS] at hF;cases hF
 | succ n ih =>
  intro w a_n r hF
  obtain ⟨rc,hrc⟩:∃ rc,rc=qS n:=⟨_,rfl⟩
  rw [←hrc] at ih
  refine zV 26 Tryz.func30 rfl fun h=>?_
  unfold qS at hF
  rw [←hrc] at hF
  refine X0 10 rfl (qm rfl hF ?_ ?_)<;>intro hF
  ·refine X0 4 rfl (zcS h hF ih rfl fun r1 w1 h hF=>?_)
   obtain ⟨z1,hx1,hF⟩:=qe hF
   obtain ⟨g1,hx1⟩:=qb2 hx1
   refine r_v (qgD g1 rfl rfl) rfl ?_
   rw [hx1]
   refine X0 2 rfl ?_
   obtain rfl:=qd hF
   exact qbn qb (ρ:=ByteArray) [_] h ⟨rfl,trivial⟩ (qgy _ _)
  ·refine X0 7 rfl (qm rfl hF ?_ ?_)<;>intro hF
   ·refine X0 5 rfl (ql qb [.tmp 13] _ ([(⟨IntKind.wrap .u8 (W64 (48+a_n))⟩:IntK .u8)]:List (IntK .u8)) h rfl rfl rfl rfl rfl rfl rfl rfl rfl ⟨rfl,trivial⟩ rfl fun w2 p1 S1 h=>r_v (qkI qb (h.sl 0 rfl).1 (h.sl 0 rfl).2 rfl ⟨rfl,rfl⟩ ⟨rfl,rfl⟩ rfl rfl) rfl (X0 2 rfl ?_))
    obtain rfl:=qd hF
    exact qbn qb (ρ:=ByteArray) [_] h ⟨rfl,trivial⟩ (qgy _ _)
   ·refine zKS ?_
    obtain ⟨r2,hr2,hF⟩:=qe hF
    obtain ⟨z2,hx2,hF⟩:=qe hF
    refine qa2 (fun e w'=>e=[(2,.string z2)]∧SH w w' []) ?_ ?_
    ·refine rA [] [] h rfl fun w5 h=>M0 123 [0,1,3,4,5,6] (h.pick [] rfl) rfl (At 2 7 127 251 rfl ?_ ?_)
     ·refine qh4 r2 h (cB 30 rfl) (ih hr2) rfl rfl rfl rfl fun w11 h=>Ag (h.pick [] rfl) (Ao 7 255 rfl (ql qb [.tmp 22] _ ([(⟨IntKind.wrap .u8 (W64 (48+(a_n.tmod 10)))⟩:IntK .u8)]:List (IntK .u8)) h rfl rfl rfl rfl rfl rfl rfl rfl rfl ⟨rfl,trivial⟩ rfl fun w12 p5 S5 h=>Ag (h.pick [] rfl) (Ao 8 511 rfl (r_v (qkI qb (h.sl 0 rfl).1 (h.sl 0 rfl).2 rfl ⟨rfl,rfl⟩ ⟨rfl,rfl⟩ rfl rfl) rfl (Ag (h.pick [] rfl) ?_)))))
      obtain ⟨g6,hx2⟩:=qb2 hx2
      refine Aw 9 1023 (fun w' hw=>qgD g6 rfl rfl) (h.pick [] rfl) rfl ?_
      rw [hx2]
      refine M0 2047 [10] (h.pick [] rfl) rfl (Ad ?_)
      replace h:=h.pick [] rfl
      exact rG ⟨rfl,h⟩ rfl
     ·refine ql qb [.tmp 22] _ ([(⟨IntKind.wrap .u8 (W64 (48+(a_n.tmod 10)))⟩:IntK .u8)]:List (IntK .u8)) h rfl rfl rfl rfl rfl rfl rfl rfl rfl ⟨rfl,trivial⟩ rfl fun w13 p6 S6 h=>Ag (h.pick [] rfl) (At 2 8 255 507 rfl ?_ ?_)
      ·refine qh4 r2 h (cB 30 rfl) (ih hr2) rfl rfl rfl rfl fun w14 h=>Ag (h.pick [] rfl) (Ao 8 511 rfl (r_v (qkI qb (h.sl 0 rfl).1 (h.sl 0 rfl).2 rfl ⟨rfl,rfl⟩ ⟨rfl,rfl⟩ rfl rfl) rfl (Ag (h.pick [] rfl) ?_)))
       obtain ⟨g7,hx2⟩:=qb2 hx2
       refine Aw 9 1023 (fun w' hw=>qgD g7 rfl rfl) (h.pick [] rfl) rfl ?_
       rw [hx2]
       refine M0 2047 [10] (h.pick [] rfl) rfl (Ad ?_)
       replace h:=h.pick [] rfl
       exact rG ⟨rfl,h⟩ rfl
      ·refine r_v (qkI qb (h.sl 0 rfl).1 (h.sl 0 rfl).2 rfl ⟨rfl,rfl⟩ ⟨rfl,rfl⟩ rfl rfl) rfl (Ag (h.pick [] rfl) (Ao 2 511 rfl (qh4 r2 h (cB 30 rfl) (ih hr2) rfl rfl rfl rfl fun w15 h=>Ag (h.pick [] rfl) ?_)))
       obtain ⟨g8,hx2⟩:=qb2 hx2
       refine Aw 9 1023 (fun w' hw=>qgD g8 rfl rfl) (h.pick [] rfl) rfl ?_
       rw [hx2]
       refine M0 2047 [10] (h.pick [] rfl) rfl (Ad ?_)
       replace h:=h.pick [] rfl
       exact rG ⟨rfl,h⟩ rfl
    ·rintro e1 w16 ⟨rfl,h⟩
     obtain rfl:=qd hF
     exact qbn qb (ρ:=ByteArray) [_] h ⟨rfl,trivial⟩ (qgy _ _)
def qdQ (_:Nat) (l:qj) (d:qg) (p:Tl05Place):Option ByteArray :=
 bif decide (p.instance_<0) then
  (idx d.Af p.pin).bind fun y1 =>
  some y1.As
 else
  (idx d.Ab p.instance_).bind fun y2 =>
  (catB y2.As (⟨#[47]⟩:ByteArray)).bind fun z1 =>
  (idx l.Ai y2.Ba).bind fun y3 =>
  (idx y3.Aq p.pin).bind fun y4 =>
  (catB z1 y4.As).bind fun z2 =>
  some z2
def qg1 (n:Nat) (l:qj) (d:qg) (place:Int):Option ByteArray :=
 (qeH n l d place).bind fun o=>match o with
  | (r2,r3) =>
   bif (!r3) then some (⟨#[]⟩:ByteArray) else
   (qdQ n l d r2).bind fun r4 =>
   some r4
def qc2 (b:qc) (word:ByteArray) (list:(List Int)):Nat→ByteArray→Int→Option (ByteArray × Int)
 | 0,_,_=>none
 | n+1,z1,i1 =>
  bif decide (i1<(list.length:Int)) then
   (catB z1 (⟨#[32]⟩:ByteArray)).bind fun z2 =>
   (catB z2 word).bind fun z3 =>
   (catB z3 (⟨#[32]⟩:ByteArray)).bind fun z4 =>
   (idx list i1).bind fun y1 =>
   (qg1 n (⟨b.Ac.Ai⟩:qj) (⟨b.Aa.Ab,b.Aa.Aj,b.Aa.Af⟩:qg) y1).bind fun r1 =>
   (catB z4 r1).bind fun z5 =>
   qc2 b word list n z5 (W64 (i1+1))
  else
   some (z1,i1)
def qfo (n:Nat) (b:qc) (word:ByteArray) (list:(List Int)):Option ByteArray :=
 (qc2 b word list n (⟨#[]⟩:ByteArray) 0).bind fun o=>match o with
 | (z1,_) =>
  some z1
def qcn (n:Nat) (b:qc) (a_e:qa):Option ByteArray :=
 (qea n b a_e).bind fun r1 =>
 bif (!r1) then some (⟨#[]⟩:ByteArray) else
 (idx ([(⟨#[102,97,108,115,101]⟩:ByteArray),(⟨#[99,121,99,108,101,115]⟩:ByteArray),(⟨#[109,97,120]⟩:ByteArray),(⟨#[109,105,110]⟩:ByteArray)]:List ByteArray) (W64 (a_e.Am-1))).bind fun y1 =>
 (
  bif (a_e.Am != 1) then
   (catB y1 (⟨#[32]⟩:ByteArray)).bind fun z5 =>
   (qS n a_e.Az).bind fun r5 =>
   (catB z5 r5).bind fun z6 =>
   some z6
  else
   some y1).bind fun z1 =>
 (qfo n b (⟨#[102,114,111,109]⟩:ByteArray) a_e.Au).bind fun r2 =>
 (catB z1 r2).bind fun z2 =>
 (qfo n b (⟨#[116,104,114,111,117,103,104]⟩:ByteArray) a_e.Ap).bind fun r3 =>
 (catB z2 r3).bind fun z3 =>
 (qfo n b (⟨#[116,111]⟩:ByteArray) a_e.To).bind fun r4 =>
 (catB z3 r4).bind fun z4 =>
 some z4
def qdI (_:Nat) (i base:Int):Option ByteArray :=
 if base=10∧-9223372036854775808≤i∧i≤9223372036854775807 then some ⟨(Lib.itoa i).toArray⟩ else none
theorem qiI {i base:Int} (hgv2:GV 2 (Lib.pow10Tab.map (Value.int .u64)) w (old w)) {r:ByteArray} (hF:qdI n i base=some r):RetV Tryz.prog 124 [.int .i64 i,.int .i64 base] w r:=by
 unfold qdI at hF
 split at hF
 ·rename_i hh
  obtain rfl:=qd hF
  obtain ⟨rfl,h0,h1⟩:=hh
  refine (Tryz.strconv_FormatInt_10 i h0 h1 w ((hgv2.var (by kernel_rfl)).trans rfl)).mono ?_
  rintro e w' ⟨rfl,k,os,rfl⟩
  exact ⟨_,rfl,Lib.below_grow _ w (jf _) k os,[.string _],rfl,qgy _ _⟩
 cases hF
def qep (n:Nat) (a_n:Int):Option ByteArray :=
 (qdI n a_n 10).bind fun r1 =>
 some r1
theorem qie {a_n:Int} (hgv2:GV 2 (Lib.pow10Tab.map (Value.int .u64)) w (old w)) {r:ByteArray} (hF:qep n a_n=some r):RetV Tryz.prog 80 [.int .i64 a_n] w r:=by
 refine zV 5 Tryz.func80 rfl fun h=>X0 7 rfl (zcS h hF (qiI (h.old hgv2)) rfl fun r1 w1 h hF=>X0 2 rfl ?_)
 obtain rfl:=qd hF
 exact qbn qb (ρ:=ByteArray) [_] h ⟨rfl,trivial⟩ (qgy _ _)
def qbx (_:Nat) (d:qg) (l:qj) (p:Tplace):Option ByteArray :=
 bif decide (p.instance_<0) then
  (idx d.Af p.pin).bind fun y1 =>
  some y1.As
 else
  (idx d.Ab p.instance_).bind fun y2 =>
  (catB y2.As (⟨#[47]⟩:ByteArray)).bind fun z1 =>
  (idx l.Ai y2.Ba).bind fun y3 =>
  (idx y3.Aq p.pin).bind fun y4 =>
  (catB z1 y4.As).bind fun z2 =>
  some z2
theorem qdo {d:qg} {l:qj} {p:Tplace} (ha1:GoT.R w (old w) d cs1) (ha2:GoT.R w (old w) l cs2) (ha3:GoT.R w (old w) p cs3) {r:ByteArray} (hF:qbx n d l p=some r):RetV Tryz.prog 81 [GoT.v qg cs1,GoT.v qj cs2,GoT.v Tplace cs3] w r:=by
 obtain ⟨p1,k1,p2,k2,p3,k3,rfl,s1,s2,s3⟩:=qZ ha1
 obtain ⟨p4,k4,rfl,s4⟩:=qaK ha2
 obtain rfl:=qdC ha3
 refine zV 40 Tryz.func81 rfl fun h=>zSR (qO h rfl rfl fun w1 bb1 h=>qO h rfl rfl fun w2 bb2 h=>qO h rfl rfl fun w3 bb3 h=>X1 9 0 h rfl (qm rfl hF ?_ ?_))<;>intro hF
 ·refine X2 6 2 0 h rfl ?_
  obtain ⟨y1,hy1,hF,he1,b1,_,q1,cs4,hp1,hq1,hr1,hc2⟩:=s3.ix hF
  obtain rfl:=qcp hr1
  refine zxe hp1 hq1 he1 rfl (zp1 rfl (zc 0 (hc2.below h.below) rfl (X0 2 rfl ?_)))
  obtain rfl:=qd hF
  exact qbn qb (ρ:=ByteArray) [_] h ⟨rfl,trivial⟩ (qgy _ _)
 refine X2 7 2 0 h rfl ?_
 obtain ⟨y2,hy2,hF,he2,b2,_,q2,cs5,hp2,hq2,hr2,hc3⟩:=s1.ix hF
 obtain ⟨p5,k5,rfl,s5⟩:=qau hr2
 refine zxe hp2 hq2 he2 rfl (zc 0 (hc3.below h.below) rfl (qx qb h rfl rfl rfl fun w4 bb4 h=>zs 0 h rfl fun w5 h=>zNS (rD (Y1 2 0 h rfl ?_))))
 obtain ⟨z1,hx1,hF⟩:=qe hF
 obtain ⟨g1,hx1⟩:=qb2 hx1
 refine d_v (fun _ hb=>qgD g1 rfl rfl) rfl ?_
 rw [hx1]
 refine Y1 2 2 h rfl ?_
 refine Y1 2 0 h rfl ?_
 obtain ⟨y3,hy3,hF,he3,b3,_,q3,cs6,hp3,hq3,hr3,hc4⟩:=s4.ix hF
 obtain ⟨p6,k6,p7,k7,p8,k8,rfl,s6,s7,s8⟩:=qQ hr3
 refine zdxe hp3 hq3 he3 rfl (zd1 rfl (zdc 2 (hc4.below h.below) rfl (Y1 2 1 h rfl ?_)))
 obtain ⟨y4,hy4,hF,he4,b4,_,q4,cs7,hp4,hq4,hr4,hc5⟩:=s6.ix hF
 obtain rfl:=qdg hr4
 refine zdxe hp4 hq4 he4 rfl (zd1 rfl (zdc 0 (hc5.below h.below) rfl ?_))
 obtain ⟨z2,hx2,hF⟩:=qe hF
 obtain ⟨g2,hx2⟩:=qb2 hx2
 refine d_v (fun _ hb=>qgD g2 rfl rfl) rfl ?_
 rw [hx2]
 refine zd1 rfl (dN h fun w6 h=>?_)
 obtain rfl:=qd hF
 exact qbn qb (ρ:=ByteArray) [_] h ⟨rfl,trivial⟩ (qgy _ _)
def qap (a_0:(Option Tview)) (i1:Int) (y2:(List Int)):Nat→ByteArray→Int→Option (ByteArray × Int)
 | 0,_,_=>none
 | n+1,z3,i2 =>
  bif decide (i2<(y2.length:Int)) then
   (idx y2 i2).bind fun y3 =>
   (a_0).bind fun y4 =>
   (idx ([(⟨#[32,102,114,111,109,32]⟩:ByteArray),(⟨#[32,116,104,114,111,117,103,104,32]⟩:ByteArray),(⟨#[32,116,111,32]⟩:ByteArray)]:List ByteArray) i1).bind fun y5 =>
   (idx y4.places y3).bind fun y6 =>
   (qbx n (⟨y4.Bd.Aa.Ab,y4.Bd.Aa.Aj,y4.Bd.Aa.Af⟩:qg) (⟨y4.Bd.Ac.Ai⟩:qj) y6).bind fun r1 =>
   (catB y5 r1).bind fun z4 =>
   (catB z3 z4).bind fun z5 =>
   qap a_0 i1 y2 n z5 (W64 (i2+1))
  else
   some (z3,i2)
def qar (a_0:(Option Tview)) (a_1:qa):Nat→ByteArray→Int→Option (ByteArray × Int)
 | 0,_,_=>none
 | n+1,z2,i1 =>
  bif decide (i1<((3:Nat):Int)) then
   (idx ([a_1.Au,a_1.Ap,a_1.To]:List (List Int)) i1).bind fun y2 =>
   (qap a_0 i1 y2 n z2 0).bind fun o=>match o with
   | (z3,_) =>
    qar a_0 a_1 n z3 (W64 (i1+1))
  else
   some (z2,i1)
def qaS (n:Nat) (a_0:(Option Tview)) (a_1:qa):Option ByteArray :=
 (idx exWords a_1.Am).bind fun y1 =>
 (
  bif (a_1.Am != 1) then
   (qep n a_1.Az).bind fun r2 =>
   (catB (⟨#[32]⟩:ByteArray) r2).bind fun z6 =>
   (catB y1 z6).bind fun z7 =>
   some z7
  else
   some y1).bind fun z1 =>
 (qar a_0 a_1 n z1 0).bind fun o=>match o with
 | (z2,_) =>
  some z2
theorem qeX {a_0:(Option Tview)} {a_1:qa} (ha1:GoT.R w (old w) a_0 cs1) (ha2:GoT.R w (old w) a_1 cs2) (hgv0:GV 0 (exWords.map Value.string) w (old w)) (hgv2:GV 2 (Lib.pow10Tab.map (Value.int .u64)) w (old w)) {r:ByteArray} (hF:qaS n a_0 a_1=some r):RetV Tryz.prog 39 [GoT.v (Option Tview) cs1,GoT.v qa cs2] w r:=by
 obtain ⟨p1,rfl,s1⟩:=qhO ha1
 obtain ⟨p2,k1,p3,k2,p4,k3,rfl,s2,s3,s4⟩:=qX ha2
 refine zV 70 Tryz.func39 rfl fun h=>zSR (qO h rfl rfl fun w1 bb1 h=>X1 6 0 h rfl ?_)
 obtain ⟨y1,hy1,hF⟩:=qe hF
 have he1:=qax hy1
 refine r_v (qrb qb rfl rfl ⟨he1.1,he1.2.1⟩ ⟨rfl,rfl⟩ rfl rfl) rfl (r_v (qqZ qb (h.old hgv0) (qqG hy1) rfl rfl rfl) rfl (X1 9 0 h rfl ?_))
 obtain ⟨KF1,hKF1,o3,hF,hK3⟩:=bindE hF
 refine qa2 (fun e w'=>∃ (z1:ByteArray),KF1 z1=some r∧e=[(0,.pointer p1),(3,.pointer (some ⟨bb1,0,none⟩)),(5,.string z1)]∧SH w w' [Ch.box bb1 (qbo a_1 p2 p3 p4 k1 k2 k3) 50]) ?_ ?_
 ·refine qm rfl hF ?_ ?_<;>intro hF
  ·refine X1 4 0 h rfl (zcS h hF (qie (h.old hgv2)) rfl fun r2 w19 h hF=>?_)
   obtain ⟨z6,hx3,hF⟩:=qe hF
   obtain ⟨g15,hx3⟩:=qb2 hx3
   refine r_v (qgD g15 rfl rfl) rfl ?_
   rw [hx3]
   obtain ⟨z7,hx4,hF⟩:=qe hF
   obtain ⟨g16,hx4⟩:=qb2 hx4
   refine r_v (qgD g16 rfl rfl) rfl ?_
   rw [hx4]
   refine X0 2 rfl ?_
   obtain rfl:=qd hF
   exact rG ⟨_,hK3,rfl,h⟩ rfl
  refine qcV ?_
  obtain rfl:=qd hF
  exact rG ⟨_,hK3,rfl,h⟩ rfl
 rintro e4 w20 ⟨z1,hF,rfl,h⟩
 subst hKF1
 refine X3 9 0 0 0 h rfl (qj6 qb [.tmp 24,.tmp 26,.tmp 28] _ ([a_1.Au,a_1.Ap,a_1.To]:List (List Int)) h rfl rfl rfl rfl rfl rfl rfl rfl rfl ⟨⟨_,_,rfl,s2⟩,⟨_,_,rfl,s3⟩,⟨_,_,rfl,s4⟩,trivial⟩ rfl fun w2 p5 S1 h=>X0 3 rfl ?_)
 obtain ⟨o1,hF,hK1⟩:=qe hF
 refine qq ?_
 replace h:=h.pick [0] rfl
 refine rL (fun m e w'=>∃ (z2:ByteArray) (i1:Int),qar a_0 a_1 m z2 i1=some o1∧e=[(0,.pointer p1),(5,.string z2),(29,.slice p5 3 3),(30,.int .i64 ((3:Nat):Int)),(31,.int .i64 i1)]∧SH w w' [Ch.rowD w S1 (([a_1.Au,a_1.Ap,a_1.To]:List (List Int)):List (List Int)) p5 3]) n ⟨_,_,hF,rfl,h⟩ rfl ?_
 rintro m1 e1 w3 ⟨z2,i1,hF,rfl,h⟩
 rcases m1 with _|m1
 ·cases hF
 refine X0 5 rfl (qm rfl hF ?_ ?_)<;>intro hF
 ·refine X0 6 rfl ?_
  obtain ⟨y2,hy2,hF⟩:=qe hF
  have he2:=qax hy2
  obtain ⟨b1,o_1,q1,cs3,hp1,hq1,-,hr1,hc2⟩:=h.atD 0 rfl hy2
  obtain ⟨p6,k4,rfl,s5⟩:=hr1
  refine zxe hp1 hq1 he2 rfl (zc 0 hc2 rfl (X0 9 rfl ?_))
  obtain ⟨o2,hF,hK2⟩:=qe hF
  refine qq (rL (fun m e w'=>∃ (z3:ByteArray) (i2:Int),qap a_0 i1 y2 m z3 i2=some o2∧e=[(0,.pointer p1),(5,.string z3),(6,.int .i64 i1),(29,.slice p5 3 3),(30,.int .i64 ((3:Nat):Int)),(31,.int .i64 i1),(36,.slice p6 y2.length k4),(37,.int .i64 (y2.length:Int)),(38,.int .i64 i2)]∧SH w w' [Ch.rowD w S1 (([a_1.Au,a_1.Ap,a_1.To]:List (List Int)):List (List Int)) p5 3]) m1 ⟨_,_,hF,rfl,h⟩ rfl ?_)
  rintro m2 e2 w4 ⟨z3,i2,hF,rfl,h⟩
  rcases m2 with _|m2
  ·cases hF
  refine X0 5 rfl (qm rfl hF ?_ ?_)<;>intro hF
  ·refine zKSBSR ?_
   obtain ⟨y3,hy3,hF,he3,b2,_,q2,cs4,hp2,hq2,rfl,hc4⟩:=s5.ix hF
   refine zxe hp2 hq2 he3 rfl (zc 0 (hc4.below h.below) rfl (X0 2 rfl ?_))
   obtain ⟨y4,hy4,hF⟩:=qe hF
   obtain ⟨b3,o_3,cs5,rfl,-,hr3,hc5⟩:=PtR.get s1 hy4
   obtain ⟨p7,k5,p8,k6,p9,k7,p10,k8,p11,k9,p12,k10,p13,k11,p14,k12,p15,k13,p16,k14,rfl,s6,s7,s8,s9,s10,s11,s12,s13,s14,s15⟩:=qjl hr3
   obtain ⟨y5,hy5,hF⟩:=qe hF
   obtain ⟨y6,hy6,hF⟩:=qe hF
   obtain ⟨r1,hr6,hF⟩:=qe hF
   obtain ⟨z4,hx1,hF⟩:=qe hF
   obtain ⟨z5,hx2,hF⟩:=qe hF
   refine qa2 (fun e w'=>e=[(0,.pointer (some ⟨b3,o_3,none⟩)),(5,.string z5),(6,.int .i64 i1),(29,.slice p5 3 3),(30,.int .i64 ((3:Nat):Int)),(31,.int .i64 i1),(36,.slice p6 y2.length k4),(37,.int .i64 (y2.length:Int)),(38,.int .i64 i2)]∧SH w w' [Ch.rowD w S1 (([a_1.Au,a_1.Ap,a_1.To]:List (List Int)):List (List Int)) p5 3]) ?_ ?_
   ·refine rA [] [] h rfl fun w7 h=>M0 485 [0,2,5,6,7,8] (h.pick [] rfl) rfl (Al 9 997 1 hc5 (h.pick [] rfl) rfl (M0 16357 [10,11,12,13] (h.pick [] rfl) rfl (Al 14 32741 0 hc5 (h.pick [] rfl) rfl (M0 262117 [15,16,17] (h.pick [] rfl) rfl (Al 18 524261 5 hc5 (h.pick [] rfl) rfl (M0 1048549 [19] (h.pick [] rfl) rfl ?_))))))
    have he9:=qax hy6
    obtain ⟨b9,o_9,q8,cs11,hp8,hq8,-,hr10,hc11⟩:=s11.at hy6
    obtain rfl:=qdC hr10
    refine Ae 20 2097125 hp8 hq8 he9 (h.pick [] rfl) rfl (Al 21 4194277 0 hc11 (h.pick [] rfl) rfl (At 1 22 4194279 8388581 rfl ?_ ?_))
    ·refine ql qb [.const (.string (⟨#[32,102,114,111,109,32]⟩:ByteArray)),.const (.string (⟨#[32,116,104,114,111,117,103,104,32]⟩:ByteArray)),.const (.string (⟨#[32,116,111,32]⟩:ByteArray))] _ ([(⟨#[32,102,114,111,109,32]⟩:ByteArray),(⟨#[32,116,104,114,111,117,103,104,32]⟩:ByteArray),(⟨#[32,116,111,32]⟩:ByteArray)]:List ByteArray) h rfl rfl rfl rfl rfl rfl rfl rfl rfl ⟨rfl,rfl,rfl,trivial⟩ rfl fun w13 p20 S5 h=>Ag (h.pick [] rfl) ?_
     have he10:=qax hy5
     obtain ⟨b10,o_10,q9,cs12,hp9,hq9,-,hr11,hc12⟩:=(h.sl 0 rfl).1.at hy5
     obtain rfl:=hr11
     refine Ax 3 4194287 hp9 hq9 ⟨he10.1,qN he10.2.1 (h.sl 0 rfl).2⟩ (h.pick [] rfl) rfl (At 4 22 4194303 8388591 rfl ?_ ?_)
     ·refine r_v (qeJ qb (qcl (w1:=w) (S1:=fun _=>False) h 0 rfl hy5 hp9 hq9 rfl) (j:=0) rfl rfl rfl) rfl (Ag (h.pick [] rfl) (Ao 22 8388607 rfl (qh4 r1 h (cB 81 rfl) (qdo (qat _ (h.oldS s7) (h.oldS s8) (h.oldS s9)) (qbw _ (h.oldS s6)) (qeF y6) hr6) rfl rfl rfl rfl fun w14 h=>Ag (h.pick [] rfl) ?_)))
      obtain ⟨g9,hx1⟩:=qb2 hx1
      refine Aw 23 16777215 (fun w' hw=>qgD g9 rfl rfl) (h.pick [] rfl) rfl ?_
      rw [hx1]
      obtain ⟨g10,hx2⟩:=qb2 hx2
      refine Aw 24 33554431 (fun w' hw=>qgD g10 rfl rfl) (h.pick [] rfl) rfl ?_
      rw [hx2]
      refine M0 67108863 [25] (h.pick [] rfl) rfl (Ad ?_)
      replace h:=h.pick [1] rfl
      exact rG ⟨rfl,h⟩ rfl
     refine qh4 r1 h (cB 81 rfl) (qdo (qat _ (h.oldS s7) (h.oldS s8) (h.oldS s9)) (qbw _ (h.oldS s6)) (qeF y6) hr6) rfl rfl rfl rfl fun w15 h=>Ag (h.pick [] rfl) (Ao 4 8388607 rfl (r_v (qeJ qb (qcl (w1:=w) (S1:=fun _=>False) h 0 rfl hy5 hp9 hq9 rfl) (j:=0) rfl rfl rfl) rfl (Ag (h.pick [] rfl) ?_)))
     obtain ⟨g11,hx1⟩:=qb2 hx1
     refine Aw 23 16777215 (fun w' hw=>qgD g11 rfl rfl) (h.pick [] rfl) rfl ?_
     rw [hx1]
     obtain ⟨g12,hx2⟩:=qb2 hx2
     refine Aw 24 33554431 (fun w' hw=>qgD g12 rfl rfl) (h.pick [] rfl) rfl ?_
     rw [hx2]
     refine M0 67108863 [25] (h.pick [] rfl) rfl (Ad ?_)
     replace h:=h.pick [1] rfl
     exact rG ⟨rfl,h⟩ rfl
    refine qh4 r1 h (cB 81 rfl) (qdo (qat _ (h.oldS s7) (h.oldS s8) (h.oldS s9)) (qbw _ (h.oldS s6)) (qeF y6) hr6) rfl rfl rfl rfl fun w16 h=>Ag (h.pick [] rfl) (Ao 1 8388583 rfl (ql qb [.const (.string (⟨#[32,102,114,111,109,32]⟩:ByteArray)),.const (.string (⟨#[32,116,104,114,111,117,103,104,32]⟩:ByteArray)),.const (.string (⟨#[32,116,111,32]⟩:ByteArray))] _ ([(⟨#[32,102,114,111,109,32]⟩:ByteArray),(⟨#[32,116,104,114,111,117,103,104,32]⟩:ByteArray),(⟨#[32,116,111,32]⟩:ByteArray)]:List ByteArray) h rfl rfl rfl rfl rfl rfl rfl rfl rfl ⟨rfl,rfl,rfl,trivial⟩ rfl fun w17 p21 S6 h=>Ag (h.pick [] rfl) ?_))
    have he11:=qax hy5
    obtain ⟨b11,o_11,q10,cs13,hp10,hq10,-,hr12,hc13⟩:=(h.sl 0 rfl).1.at hy5
    obtain rfl:=hr12
    refine Ax 3 8388591 hp10 hq10 ⟨he11.1,qN he11.2.1 (h.sl 0 rfl).2⟩ (h.pick [] rfl) rfl (Ao 4 8388607 rfl (r_v (qeJ qb (qcl (w1:=w) (S1:=fun _=>False) h 0 rfl hy5 hp10 hq10 rfl) (j:=0) rfl rfl rfl) rfl (Ag (h.pick [] rfl) ?_)))
    obtain ⟨g13,hx1⟩:=qb2 hx1
    refine Aw 23 16777215 (fun w' hw=>qgD g13 rfl rfl) (h.pick [] rfl) rfl ?_
    rw [hx1]
    obtain ⟨g14,hx2⟩:=qb2 hx2
    refine Aw 24 33554431 (fun w' hw=>qgD g14 rfl rfl) (h.pick [] rfl) rfl ?_
    rw [hx2]
    refine M0 67108863 [25] (h.pick [] rfl) rfl (Ad ?_)
    replace h:=h.pick [1] rfl
    exact rG ⟨rfl,h⟩ rfl
   rintro e3 w18 ⟨rfl,h⟩
   exact X0 5 rfl (rK ⟨_,_,hF,rfl,h⟩ rfl)
  refine qy rfl ?_
  obtain rfl:=qd hF;replace hF:=hK2
  exact X0 5 rfl (rK ⟨_,_,hF,rfl,h⟩ rfl)
 refine qy rfl ?_
 obtain rfl:=qd hF;replace hF:=hK1
 refine X0 5 rfl ?_
 obtain rfl:=qd hF
 exact qbn qb (ρ:=ByteArray) [_] h ⟨rfl,trivial⟩ (qgy _ _)
def qej (n:Nat) (b:qc) (a_e:qa):Option ByteArray :=
 (qff n b).bind fun r1 =>
 bif (!r1) then some (⟨#[]⟩:ByteArray) else
 (qfb n b).bind fun r2 =>
 (qaO n r2 a_e).bind fun r3 =>
 bif (!r3) then some (⟨#[]⟩:ByteArray) else
 (qaS n r2 a_e).bind fun r4 =>
 some r4
theorem qim {b:qc} {a_e:qa} (ha1:GoT.R w (old w) b cs1) (ha2:GoT.R w (old w) a_e cs2) (hgv0:GV 0 (exWords.map Value.string) w (old w)) (hgv2:GV 2 (Lib.pow10Tab.map (Value.int .u64)) w (old w)) {r:ByteArray} (hF:qej n b a_e=some r):RetV Tryz.prog 11 [GoT.v qc cs1,GoT.v qa cs2] w r:=by
 obtain ⟨p1,k1,p2,k2,p3,k3,p4,k4,p5,k5,rfl,s1,s2,s3,s4,s5⟩:=qT ha1
 obtain ⟨p6,k6,p7,k7,p8,k8,rfl,s6,s7,s8⟩:=qX ha2
 refine zV 18 Tryz.func11 rfl fun h=>zSR (qO h rfl rfl fun w1 bb1 h=>qO h rfl rfl fun w2 bb2 h=>X1 6 1 h rfl (zcB h hF (qgw (h.old ha1)) rfl fun r1 w3 h hF=>X0 2 rfl (qm rfl hF ?_ ?_)))<;>intro hF
 ·refine X0 4 rfl ?_
  obtain rfl:=qd hF
  exact qbn qb (ρ:=ByteArray) [_] h ⟨rfl,trivial⟩ (qgy _ _)
 refine X1 4 1 h rfl ?_
 have hg1:Rg (old w) w (old w) w:=.start (fun _ h=>h)
 obtain ⟨r2,hr2,hF⟩:=qe hF
 refine ql6 r2 hg1 h (cB 37 rfl) (qgx (hg1.regOld h) (hg1.inR h ha1) hr2) rfl rfl rfl rfl fun w4 us1 B1 hg2 hu1 hz1 hv1=>?_
 have hL1:=h.ext hu1.below
 have hc2:=Up.box 0 h hu1 rfl
 have s9:=Up.S hg1 h hu1 s6
 have s10:=Up.S hg1 h hu1 s7
 have s11:=Up.S hg1 h hu1 s8
 have s12:=Up.R hg1 h hu1 ha2
 have ha3:=Up.boxP (x:=a_e) hg1 0 h hu1 rfl (hg1.inR h ha2)
 have s13:=Up.R hg1 h hu1 hgv0
 have s14:=Up.R hg1 h hu1 hgv2
 have hb1:=h.below.trans (hu1.below.mono h.below.size)
 replace h:=hz1
 obtain ⟨cs3,rfl,hr3⟩:=qh2 hv1
 obtain ⟨p9,rfl,s15⟩:=qhO hr3
 refine X0 6 rfl (zc 0 (hc2.below h.below) rfl (zcB h hF (qdU (h.old (GoT.mono s15 hg2.old)) (h.old (GoT.mono s12 hg2.old))) rfl fun r3 w5 h hF=>X0 2 rfl (qm rfl hF ?_ ?_)))<;>intro hF
 ·refine X0 4 rfl ?_
  replace h:=h.unbase hg2.below (show NoD [] from trivial)
  obtain rfl:=qd hF
  exact qbn qb (ρ:=ByteArray) [_] h ⟨rfl,trivial⟩ (qgy _ _)
 refine X0 4 rfl (zc 0 (hc2.below h.below) rfl (zcS h hF (qeX (h.old (GoT.mono s15 hg2.old)) (h.old (GoT.mono s12 hg2.old)) (h.old (GoT.mono s13 hg2.old)) (h.old (GoT.mono s14 hg2.old))) rfl fun r4 w6 h hF=>X0 2 rfl ?_))
 replace h:=h.unbase hg2.below (show NoD [] from trivial)
 obtain rfl:=qd hF
 exact qbn qb (ρ:=ByteArray) [_] h ⟨rfl,trivial⟩ (qgy _ _)
end Go.Fw


namespace Go.Fw
open Go Go.Proofs
open Go.RowKit (Below)
set_option maxRecDepth 100000
set_option maxHeartbeats 6400000
variable {n:Nat} {w:World} {cs1 cs2 cs3 cs4 cs5 cs6 cs7 cs8 cs9:List Value}
def qbH (s:ByteArray) (a_by:(IntK .u8)):Nat→(List ByteArray)→Int→Int→Option ((List ByteArray) × Int × Int)
 | 0,_,_,_=>none
 | n+1,x1,i1,i2 =>
  bif decide (i2≤(s.size:Int)) then
   (
    bif (i2==(s.size:Int)) then some true else
    (atS s i2).bind fun y1 =>
    some (y1==a_by.val)).bind fun b1 =>
   bif b1 then
    (subB s i1 i2).bind fun z1 =>
    (appS x1 ([z1]:List ByteArray)).bind fun x2 =>
    qbH s a_by n x2 (W64 (i2+1)) (W64 (i2+1))
   else
    qbH s a_by n x1 i1 (W64 (i2+1))
  else
   some (x1,i1,i2)
def qhs (n:Nat) (s:ByteArray) (a_by:(IntK .u8)):Option (List ByteArray) :=
 (qbH s a_by n ([]:List ByteArray) 0 0).bind fun o=>match o with
 | (x1,_,_) =>
  some x1
def qbz (z1:ByteArray):Nat→Int→Int→Option (Flow (Int × Bool) (Int × Int))
 | 0,_,_=>none
 | n+1,i1,i2 =>
  bif decide (i2<(z1.size:Int)) then
   (
    (atS z1 i2).bind fun y2 =>
    bif decide (y2<48) then some true else
    (atS z1 i2).bind fun y3 =>
    some (decide (y3 > 57))).bind fun b3 =>
   bif b3 then some (.ret (0,false)) else
   (atS z1 i2).bind fun y1 =>
   qbz z1 n (W64 ((W64 (10*i1))+(W64 (IntKind.wrap .u8  (y1-48))))) (W64 (i2+1))
  else
   some (.nxt (i1,i2))
def qdV (n:Nat) (s:ByteArray):Option (Int × Bool) :=
 (
  bif decide ((s.size:Int) > 0) then
   (atS s 0).bind fun y4 =>
   some (y4==45)
  else
   some false).bind fun b1 =>
 (
  bif b1 then
   (subB s 1 (s.size:Int)).bind fun z2 =>
   some z2
  else
   some s).bind fun z1 =>
 (
  bif decide ((z1.size:Int)<1) then some true else
  some (decide ((z1.size:Int) > 12))).bind fun b2 =>
 bif b2 then some (0,false) else
 (qbz z1 n 0 0).bind fun o=>match o with
 | .ret r=>some r
 | .nxt (i1,_) =>
  bif decide ((z1.size:Int)<(s.size:Int)) then
   (qS n (W64 (0-i1))).bind fun r1 =>
   some (W64 (0-i1),(r1.toList==s.toList))
  else
   (qS n i1).bind fun r2 =>
   some (i1,(r2.toList==s.toList))
def qdk (l:qj) (d:qg) (name:ByteArray) (r2:(List Tl05Place)):Nat→Int→Option (Flow Int Int)
 | 0,_=>none
 | n+1,i1 =>
  bif decide (i1<(r2.length:Int)) then
   (idx r2 i1).bind fun y1 =>
   (qdQ n l d y1).bind fun r3 =>
   bif (r3.toList==name.toList) then some (.ret i1) else
   qdk l d name r2 n (W64 (i1+1))
  else
   some (.nxt i1)
def qcf (n:Nat) (l:qj) (d:qg) (name:ByteArray):Option Int :=
 (qev n l d).bind fun r1 =>
 bif (!r1) then some (-1) else
 (qbS n d).bind fun r2 =>
 (qdk l d name r2 n 0).bind fun o=>match o with
 | .ret r=>some r
 | .nxt _ =>
  some (-1)
def qM (a_0:qc) (r1:(List ByteArray)):Nat→(List Int)→(List Int)→(List Int)→Int→Option ((List Int) × (List Int) × (List Int) × Int)
 | 0,_,_,_,_=>none
 | n+1,x1,x2,x3,i4 =>
  bif decide ((W64 (i4+1))<(r1.length:Int)) then
   (idx r1 (W64 (i4+1))).bind fun y2 =>
   (qcf n (⟨a_0.Ac.Ai⟩:qj) (⟨a_0.Aa.Ab,a_0.Aa.Aj,a_0.Aa.Af⟩:qg) y2).bind fun r2 =>
   (idx r1 i4).bind fun y3 =>
   bif (y3.toList==(⟨#[102,114,111,109]⟩:ByteArray).toList) then
    (appS x3 ([r2]:List Int)).bind fun x4 =>
    qM a_0 r1 n x1 x2 x4 (W64 (i4+2))
   else
    bif (y3.toList==(⟨#[116,104,114,111,117,103,104]⟩:ByteArray).toList) then
     (appS x2 ([r2]:List Int)).bind fun x5 =>
     qM a_0 r1 n x1 x5 x3 (W64 (i4+2))
    else
     bif (y3.toList==(⟨#[116,111]⟩:ByteArray).toList) then
      (appS x1 ([r2]:List Int)).bind fun x6 =>
      qM a_0 r1 n x6 x2 x3 (W64 (i4+2))
     else
      qM a_0 r1 n x1 x2 x3 (W64 (i4+2))
  else
   some (x1,x2,x3,i4)
def qdi (n:Nat) (a_0:qc) (a_1:ByteArray):Option (qa × Bool) :=
 (qhs n a_1 (⟨32⟩:IntK .u8)).bind fun r1 =>
 (idx r1 0).bind fun y1 =>
 (
  bif (y1.toList==(⟨#[102,97,108,115,101]⟩:ByteArray).toList) then some (1:Int) else
  bif (y1.toList==(⟨#[99,121,99,108,101,115]⟩:ByteArray).toList) then some 2 else
  bif (y1.toList==(⟨#[109,97,120]⟩:ByteArray).toList) then some 3 else
  bif (y1.toList==(⟨#[109,105,110]⟩:ByteArray).toList) then some 4 else
  some 0).bind fun i1 =>
 (
  bif (i1 != 1) then some (decide ((r1.length:Int) > 1)) else
  some false).bind fun b2 =>
 (
  bif b2 then
   (idx r1 1).bind fun y4 =>
   (qdV n y4).bind fun o=>match o with
    | (r5,_) =>
     some (r5,(2:Int))
  else
   some (0,1)).bind fun o=>match o with
  | (i2,i3) =>
   (qM a_0 r1 n ([]:List Int) ([]:List Int) ([]:List Int) i3).bind fun o=>match o with
   | (x1,x2,x3,_) =>
    bif (a_1.toList==(⟨#[]⟩:ByteArray).toList) then some ((⟨0,0,[],[],[]⟩:qa),false) else
    (qcn n a_0 (⟨i1,i2,x3,x2,x1⟩:qa)).bind fun r3 =>
    bif (r3.toList != a_1.toList) then some ((⟨0,0,[],[],[]⟩:qa),false) else
    some ((⟨i1,i2,x3,x2,x1⟩:qa),true)
def qcM (n:Nat) (s:ByteArray):Option (Int × Bool) :=
 (parseN s).bind fun y1 =>
 bif y1.2 then
  (qep n y1.1).bind fun r1 =>
  some (y1.1,(r1.toList==s.toList))
 else
  some (y1.1,false)
theorem qjp {s:ByteArray} (hgv2:GV 2 (Lib.pow10Tab.map (Value.int .u64)) w (old w)) (hgv3:GVE 3 isErrC w (old w)) (hgv4:GVE 4 isErrC w (old w)) {r:(Int × Bool)} (hF:qcM n s=some r):RetV Tryz.prog 93 [.string s] w r:=by
 refine zV 20 Tryz.func93 rfl fun h=>X0 8 rfl ?_
 obtain ⟨y1,hy1,hF⟩:=qe hF
 refine qt (cB 136 rfl) (qnC (h.old hgv3) (h.old hgv4) hy1) rfl rfl rfl rfl ?_
 rintro w1 _ ⟨ev1,rfl,hb1,hv1⟩
 replace h:=h.ext hb1
 refine X0 10 rfl (r_v (qq1 Tryz.underlying203 rfl hv1) rfl (zp1 rfl (qi (t:=14) hF rfl ?_ ?_)))<;>intro hF
 ·refine X0 3 rfl (zcS h hF (qie (h.old hgv2)) rfl fun r1 w2 h hF=>X0 8 rfl ?_)
  obtain rfl:=qd hF
  exact qbn qb (ρ:=(Int × Bool)) [GoT.v Int [.int .i64 y1.1],GoT.v Bool [.bool (r1.toList==s.toList)]] h ⟨rfl,rfl,trivial⟩ (PV.done h (qdZ h (qC (S:=fun _=>False) rfl) (qdq (qC (S:=fun _=>False) rfl)) (by rfl)))
 refine X0 8 rfl ?_
 obtain rfl:=qd hF
 exact qbn qb (ρ:=(Int × Bool)) [GoT.v Int [.int .i64 y1.1],GoT.v Bool [.bool false]] h ⟨rfl,rfl,trivial⟩ (PV.done h (qdZ h (qC (S:=fun _=>False) rfl) (qdq (qC (S:=fun _=>False) rfl)) (by rfl)))
def qcw (n:Nat) (p:Tplace) (v0:qg) (v1:qj) (v2:ByteArray):Option Bool :=
 (qbx n v0 v1 p).bind fun r1 =>
 some (r1.toList==v2.toList)
theorem qgF {p:Tplace} {v0:qg} {v1:qj} {v2:ByteArray} (ha1:GoT.R w (old w) p cs1) {p1:Option Addr} (ha2:GoT.R w (old w) (some v0) [.pointer p1]) {p5:Option Addr} (ha3:GoT.R w (old w) (some v1) [.pointer p5]) {p7:Option Addr} (ha4:GoT.R w (old w) (some v2) [.pointer p7]) {r:Bool} (hF:qcw n p v0 v1 v2=some r):RetV Tryz.prog 138 [GoT.v Tplace cs1,.pointer p1,.pointer p5,.pointer p7] w r:=by
 obtain rfl:=qdC ha1
 obtain ⟨b1,o_1,cs2,rfl,-,hr1,hc1⟩:=PtR.get ha2 rfl
 obtain ⟨p2,k1,p3,k2,p4,k3,rfl,s1,s2,s3⟩:=qZ hr1
 obtain ⟨b2,o_2,cs3,rfl,-,hr2,hc2⟩:=PtR.get ha3 rfl
 obtain ⟨p6,k4,rfl,s4⟩:=qaK hr2
 obtain ⟨b3,o_3,cs4,rfl,-,hr3,hc3⟩:=PtR.get ha4 rfl
 obtain rfl:=hr3
 refine zV 12 Tryz.func138 rfl fun h=>zSR (qO h rfl rfl fun w1 bb1 h=>X0 3 rfl (rD (zdc 0 (hc1.below h.below) rfl (zdc 0 (hc2.below h.below) rfl (Y1 1 0 h rfl ?_)))))
 obtain ⟨r1,hr4,hF⟩:=qe hF
 exact qcg r1 (vsS _) (cB 81 rfl) (fun _ hb=>qdo (qat v0 ((h.ext hb).oldS s1) ((h.ext hb).oldS s2) ((h.ext hb).oldS s3)) (qbw v1 ((h.ext hb).oldS s4)) ((h.ext hb).old ha1) hr4) rfl rfl rfl rfl (zdc 0 (hc3.below h.below) rfl (zd2 rfl (dN h fun w2 h=>rb h hF rfl)))
def qD (s:(List Tplace)) (f_0:qg) (f_1:qj) (f_2:ByteArray):Nat→Int→Option (Flow Int Int)
 | 0,_=>none
 | n+1,i1 =>
  bif decide (i1<(s.length:Int)) then
   (idx s i1).bind fun y1 =>
   (qcw n y1 f_0 f_1 f_2).bind fun r1 =>
   bif r1 then some (.ret i1) else
   qD s f_0 f_1 f_2 n (W64 (i1+1))
  else
   some (.nxt i1)
def qav (n:Nat) (s:(List Tplace)) (f_0:qg) (f_1:qj) (f_2:ByteArray):Option Int :=
 (qD s f_0 f_1 f_2 n 0).bind fun o=>match o with
 | .ret r=>some r
 | .nxt _ =>
  some (-1)
theorem qcB {s:(List Tplace)} {f_0:qg} {f_1:qj} {f_2:ByteArray} (ha1:GoT.R w (old w) s cs1) {p2:Option Addr} (ha2:GoT.R w (old w) (some f_0) [.pointer p2]) {p6:Option Addr} (ha3:GoT.R w (old w) (some f_1) [.pointer p6]) {p8:Option Addr} (ha4:GoT.R w (old w) (some f_2) [.pointer p8]) {r:Int} (hF:qav n s f_0 f_1 f_2=some r):RetV Tryz.prog 137 [GoT.v (List Tplace) cs1,.func (.func 138) #[] #[.pointer p2,.pointer p6,.pointer p8]] w r:=by
 obtain ⟨p1,k1,rfl,s1⟩:=ha1
 obtain ⟨b1,o_1,cs2,rfl,-,hr1,hc1⟩:=PtR.get ha2 rfl
 obtain ⟨p3,k2,p4,k3,p5,k4,rfl,s2,s3,s4⟩:=qZ hr1
 obtain ⟨b2,o_2,cs3,rfl,-,hr2,hc2⟩:=PtR.get ha3 rfl
 obtain ⟨p7,k5,rfl,s5⟩:=qaK hr2
 obtain ⟨b3,o_3,cs4,rfl,-,hr3,hc3⟩:=PtR.get ha4 rfl
 obtain rfl:=hr3
 refine zV 19 Tryz.func137 rfl fun h=>X0 11 rfl ?_
 obtain ⟨o1,hF,hK1⟩:=qe hF
 refine qq (rL (fun m e w'=>∃ (i1:Int),qD s f_0 f_1 f_2 m i1=some o1∧e=[(0,.slice p1 s.length k1),(1,.func (.func 138) #[] #[.pointer (some ⟨b1,o_1,none⟩),.pointer (some ⟨b2,o_2,none⟩),.pointer (some ⟨b3,o_3,none⟩)]),(7,.int .i64 (s.length:Int)),(8,.int .i64 i1)]∧SH w w' []) n ⟨_,hF,rfl,h⟩ rfl ?_)
 rintro m1 e1 w1 ⟨i1,hF,rfl,h⟩
 rcases m1 with _|m1
 ·cases hF
 refine X0 5 rfl (qm rfl hF ?_ ?_)<;>intro hF
 ·refine X0 13 rfl ?_
  obtain ⟨y1,hy1,hF,he1,b4,_,q1,cs5,hp1,hq1,hr4,hc5⟩:=s1.ix hF
  obtain rfl:=qdC hr4
  refine zxe hp1 hq1 he1 rfl (zc 0 (hc5.below h.below) rfl (zcB h hF (qgF (qeF y1) (h.old ha2) (h.old ha3) (h.old ha4)) rfl fun r1 w2 h hF=>qa5 (qm rfl hF ?_ ?_)))<;>intro hF
  ·refine X0 5 rfl ?_
   obtain rfl:=qd hF;replace hF:=hK1
   exact ri h hF rfl
  exact X0 6 rfl (rK ⟨_,hF,rfl,h⟩ rfl)
 refine qy rfl ?_
 obtain rfl:=qd hF;replace hF:=hK1
 exact X0 4 rfl (ri h hF rfl)
def qa1 (n:Nat) (d:qg) (l:qj) (name:ByteArray):Option Int :=
 (qbj n d).bind fun r1 =>
 (qav n r1 d l name).bind fun r2 =>
 some r2
theorem qg8 {d:qg} {l:qj} {name:ByteArray} (ha1:GoT.R w (old w) d cs1) (ha2:GoT.R w (old w) l cs2) {r:Int} (hF:qa1 n d l name=some r):RetV Tryz.prog 94 [GoT.v qg cs1,GoT.v qj cs2,.string name] w r:=by
 obtain ⟨p1,k1,p2,k2,p3,k3,rfl,s1,s2,s3⟩:=qZ ha1
 obtain ⟨p4,k4,rfl,s4⟩:=qaK ha2
 exact zV 11 Tryz.func94 rfl fun h=>zSR (qO h rfl rfl fun w1 bb1 h=>qO h rfl rfl fun w2 bb2 h=>qO h rfl rfl fun w3 bb3 h=>X1 5 2 h rfl (zcL h hF (qci (h.old ha1)) rfl fun r1 w4 S1 p5 k5 h hF=>zp1 rfl (zcI h hF (qcB (h.own 0 rfl) (qfS (x:=d) 3 h rfl (h.old ha1)) (qfS (x:=l) 2 h rfl (h.old ha2)) (qfS (x:=name) 1 h rfl rfl)) rfl fun r2 w5 h hF=>X0 2 rfl (ri h hF rfl))))
def qA (a_0:(Option Tview)) (x2:(List ByteArray)):Nat→(List Int)→(List Int)→(List Int)→Int→Option ((List Int) × (List Int) × (List Int) × Int)
 | 0,_,_,_,_=>none
 | n+1,x3,x4,x5,i2 =>
  bif decide ((W64 (i2+1))<(x2.length:Int)) then
   (a_0).bind fun y2 =>
   (idx x2 (W64 (i2+1))).bind fun y3 =>
   (qa1 n (⟨y2.Bd.Aa.Ab,y2.Bd.Aa.Aj,y2.Bd.Aa.Af⟩:qg) (⟨y2.Bd.Ac.Ai⟩:qj) y3).bind fun r2 =>
   (idx x2 i2).bind fun y4 =>
   bif (y4.toList==(⟨#[102,114,111,109]⟩:ByteArray).toList) then
    (appS x5 ([r2]:List Int)).bind fun x6 =>
    qA a_0 x2 n x3 x4 x6 (W64 (i2+2))
   else
    bif (y4.toList==(⟨#[116,104,114,111,117,103,104]⟩:ByteArray).toList) then
     (appS x4 ([r2]:List Int)).bind fun x7 =>
     qA a_0 x2 n x3 x7 x5 (W64 (i2+2))
    else
     bif (y4.toList==(⟨#[116,111]⟩:ByteArray).toList) then
      (appS x3 ([r2]:List Int)).bind fun x8 =>
      qA a_0 x2 n x8 x4 x5 (W64 (i2+2))
     else
      qA a_0 x2 n x3 x4 x5 (W64 (i2+2))
  else
   some (x3,x4,x5,i2)
def qcE (n:Nat) (a_0:(Option Tview)) (a_1:(List ByteArray)):Option qa :=
 (idx a_1 0).bind fun y1 =>
 (qa6 n exWords y1).bind fun r1 =>
 (subS a_1 1 (a_1.length:Int)).bind fun x1 =>
 (
  bif (r1 != 1) then some (decide ((x1.length:Int) > 0)) else
  some false).bind fun b2 =>
 (
  bif b2 then
   (idx x1 0).bind fun y5 =>
   (qcM n y5).bind fun o=>match o with
    | (r4,_) =>
     (subS x1 1 (x1.length:Int)).bind fun x9 =>
     some (x9,r4)
  else
   some (x1,0)).bind fun o=>match o with
  | (x2,i1) =>
   (qA a_0 x2 n ([]:List Int) ([]:List Int) ([]:List Int) 0).bind fun o=>match o with
   | (x3,x4,x5,_) =>
    some (⟨r1,i1,x5,x4,x3⟩:qa)
theorem qg2 {a_0:(Option Tview)} {a_1:(List ByteArray)} (ha1:GoT.R w (old w) a_0 cs1) (ha2:GoT.R w (old w) a_1 cs2) (hgv0:GV 0 (exWords.map Value.string) w (old w)) (hgv2:GV 2 (Lib.pow10Tab.map (Value.int .u64)) w (old w)) (hgv3:GVE 3 isErrC w (old w)) (hgv4:GVE 4 isErrC w (old w)) {r:qa} (hF:qcE n a_0 a_1=some r):RetV Tryz.prog 48 [GoT.v (Option Tview) cs1,GoT.v (List ByteArray) cs2] w r:=by
 obtain ⟨p1,rfl,s1⟩:=qhO ha1
 obtain ⟨p2,k1,rfl,s2⟩:=ha2
 refine zV 87 Tryz.func48 rfl fun h=>zSR (qx qb h rfl rfl rfl fun w1 bb1 h=>zNS (rA [] [] h rfl fun w2 h=>?_))
 have s3:=hgv0.slR (xs:=exWords) (by decide)
 refine Aw 0 1 (fun w' hw=>qo2 qb rfl ⟨rfl,rfl⟩ rfl) (h.pick [] rfl) rfl ?_
 refine M0 3 [1] (h.pick [] rfl) rfl ?_
 obtain ⟨y1,hy1,hF,he1,b1,_,q1,cs3,hp1,hq1,rfl,hc1⟩:=s2.ix hF
 refine Ae 2 7 hp1 hq1 he1 (h.pick [] rfl) rfl (Al 3 15 0 hc1 (h.pick [] rfl) rfl ?_)
 obtain ⟨r1,hr2,hF⟩:=qe hF
 refine qjx (fun e w'=>∃ (bb6:Nat),e=[(0,.pointer p1),(1,.slice p2 a_1.length k1),(4,.pointer (some ⟨bb1,0,none⟩)),(5,.pointer (some ⟨bb6,0,none⟩))]∧SH w w' [Ch.box bb6 [.int .i64 r1,.int .i64 0,.slice none 0 0,.slice none 0 0,.slice none 0 0] 50,Ch.box bb1 [.int .i64 0,.int .i64 0,.slice none 0 0,.slice none 0 0,.slice none 0 0] 50]) 0 (bits 8 255) ?_ ?_
 ·intro K
  refine At 4 6 31 79 rfl ?_ ?_
  ·refine qmx r1 h (cB 92 rfl) (qeh ⟨_,_,rfl,(h.oldS s3)⟩ hr2) rfl rfl rfl rfl fun w10 h=>Ag (h.pick [] rfl) (Aw 5 63 (fun w' hw=>qah qb [0] [.tmp 13] rfl rfl rfl rfl rfl rfl rfl rfl) (h.pick [] rfl) rfl ?_)
   exact Ao 6 127 rfl (qx qb h rfl rfl rfl fun w11 bb5 h=>Ag (h.pick [] rfl) (Ao 7 255 rfl (zs 0 h rfl fun w12 h=>Ag (h.pick [] rfl) (qjj [(0,_),(1,_),(4,_),(5,_)] ⟨rfl,rfl,rfl,rfl,trivial⟩ (K _ _ ⟨_,rfl,h⟩)))))
  refine qx qb h rfl rfl rfl fun w10 bb5 h=>Ag (h.pick [] rfl) (Ao 4 95 rfl (qmx r1 h (cB 92 rfl) (qeh ⟨_,_,rfl,(h.oldS s3)⟩ hr2) rfl rfl rfl rfl fun w11 h=>Ag (h.pick [] rfl) (Aw 5 127 (fun w' hw=>qah qb [0] [.tmp 13] rfl rfl rfl rfl rfl rfl rfl rfl) (h.pick [] rfl) rfl ?_)))
  exact Ao 7 255 rfl (zs 0 h rfl fun w12 h=>Ag (h.pick [] rfl) (qjj [(0,_),(1,_),(4,_),(5,_)] ⟨rfl,rfl,rfl,rfl,trivial⟩ (K _ _ ⟨_,rfl,h⟩)))
 rintro e2 w13 ⟨bb6,rfl,h⟩
 refine Ad (X0 3 rfl ?_)
 obtain ⟨x1,hx1,hF⟩:=qe hF
 obtain ⟨p3,k2,hp2,hk1,hl1,g1⟩:=qld (h.oldS s2) hx1
 refine r_v (qiF qb rfl rfl rfl (qln g1 rfl) hp2 hk1 hl1 rfl rfl rfl rfl) rfl ?_
 have s4:=qkV s2 hx1 hp2 hk1
 refine zp1 rfl ?_
 replace h:=h.addSee s4
 refine zNSS ?_
 obtain ⟨KF2,hKF2,o3,hF,hK3⟩:=bindE hF
 refine qa2 (fun e w'=>∃ (b2:Bool),KF2 b2=some r∧e=[(0,.pointer p1),(4,.pointer (some ⟨bb1,0,none⟩)),(5,.pointer (some ⟨bb6,0,none⟩)),(6,.slice p3 x1.length k2),(24,.bool b2)]∧SH w w' [Ch.see w (fun _=>False) (x1:List ByteArray) p3 k2,Ch.box bb6 [.int .i64 r1,.int .i64 0,.slice none 0 0,.slice none 0 0,.slice none 0 0] 50,Ch.box bb1 [.int .i64 0,.int .i64 0,.slice none 0 0,.slice none 0 0,.slice none 0 0] 50]) ?_ ?_
 ·refine X1 5 1 h rfl (qi (t:=20) hF rfl ?_ ?_)<;>intro hF
  ·refine X0 8 rfl ?_
   obtain rfl:=qd hF
   exact rG ⟨_,hK3,rfl,h⟩ rfl
  refine X0 5 rfl ?_
  obtain rfl:=qd hF
  exact rG ⟨_,hK3,rfl,h⟩ rfl
 rintro e5 w29 ⟨b2,hF,rfl,h⟩
 subst hKF2
 obtain ⟨KF1,hKF1,o2,hF,hK2⟩:=bindE hF
 refine qa2 (fun e w'=>∃ (S1:Nat→Prop) (p4:Option Addr) (k3:Nat) (x2:(List ByteArray)) (i1:Int),KF1 (x2,i1)=some r∧e=[(0,.pointer p1),(4,.pointer (some ⟨bb1,0,none⟩)),(5,.pointer (some ⟨bb6,0,none⟩)),(6,.slice p4 x2.length k3)]∧SH w w' [Ch.see w S1 (x2:List ByteArray) p4 k3,Ch.box bb6 [.int .i64 r1,.int .i64 i1,.slice none 0 0,.slice none 0 0,.slice none 0 0] 50,Ch.box bb1 [.int .i64 0,.int .i64 0,.slice none 0 0,.slice none 0 0,.slice none 0 0] 50]) ?_ ?_
 ·refine qm rfl hF ?_ ?_<;>intro hF
  ·refine X0 3 rfl ?_
   obtain ⟨y5,hy5,hF,he4,b6,_,q4,cs7,hp5,hq4,rfl,hc10⟩:=(h.oldS (h.seeS 0 rfl)).ix hF
   refine zx hp5 hq4 ⟨he4.1,qN he4.2.1 rfl⟩ rfl (zc 0 hc10 rfl ?_)
   obtain ⟨r3,hr8,hF⟩:=qe hF
   obtain ⟨r4,r5⟩:=r3
   refine qgb (r4,r5) h (cB 93 rfl) (qjp (h.old hgv2) (h.old hgv3) (h.old hgv4) hr8) rfl rfl rfl rfl fun w26 S11 us1 hv1 hr9=>?_
   obtain ⟨S12,us2,rfl,hv2,hr10⟩:=hv1.consI hr9
   obtain ⟨rfl,h⟩:=hv2.lastB hr10
   refine zp4 rfl (zs 1 h rfl fun w27 h=>X0 3 rfl ?_)
   obtain ⟨x9,hx5,hF⟩:=qe hF
   obtain ⟨p24,k20,hp6,hk2,hl2,g5⟩:=qld (h.oldS (h.seeS 0 rfl)) hx5
   refine r_v (qiF qb rfl rfl rfl (qln g5 rfl) hp6 hk2 hl2 rfl rfl rfl rfl) rfl ?_
   have s15:=qkV (h.seeS 0 rfl) hx5 hp6 hk2
   refine zp1 rfl ?_
   replace h:=h.addSee s15
   refine qa5 ?_
   replace h:=h.pick [0,2,3] rfl
   obtain rfl:=qd hF
   exact rG ⟨_,_,_,_,_,hK2,rfl,h⟩ rfl
  refine qcV ?_
  obtain rfl:=qd hF
  exact rG ⟨_,_,_,_,_,hK2,rfl,h⟩ rfl
 rintro e4 w28 ⟨S1,p4,k3,x2,i1,hF,rfl,h⟩
 subst hKF1
 refine X0 5 rfl ?_
 replace h:=h.nil (α:=Int)
 replace h:=h.nil (α:=Int)
 replace h:=h.nil (α:=Int)
 obtain ⟨o1,hF,hK1⟩:=qe hF
 refine qq (rL (fun m e w'=>∃ (S2:Nat→Prop) (p5:Option Addr) (ln1:Nat) (k4:Nat) (x3:(List Int)) (S3:Nat→Prop) (p6:Option Addr) (ln2:Nat) (k5:Nat) (x4:(List Int)) (S4:Nat→Prop) (p7:Option Addr) (ln3:Nat) (k6:Nat) (x5:(List Int)) (i2:Int),qA a_0 x2 m x3 x4 x5 i2=some o1∧e=[(0,.pointer p1),(4,.pointer (some ⟨bb1,0,none⟩)),(5,.pointer (some ⟨bb6,0,none⟩)),(6,.slice p4 x2.length k3),(7,.int .i64 i2)]∧SH w w' [Ch.own S2 (x3:List Int) [.slice p5 ln1 k4],Ch.own S3 (x4:List Int) [.slice p6 ln2 k5],Ch.own S4 (x5:List Int) [.slice p7 ln3 k6],Ch.see w S1 (x2:List ByteArray) p4 k3,Ch.box bb6 [.int .i64 r1,.int .i64 i1,.slice p7 ln3 k6,.slice p6 ln2 k5,.slice p5 ln1 k4] 50,Ch.box bb1 [.int .i64 0,.int .i64 0,.slice none 0 0,.slice none 0 0,.slice none 0 0] 50]) n ⟨_,_,_,_,_,_,_,_,_,_,_,_,_,_,_,_,hF,rfl,h⟩ rfl ?_)
 rintro m1 e3 w14 ⟨S2,p5,ln1,k4,x3,S3,p6,ln2,k5,x4,S4,p7,ln3,k6,x5,i2,hF,rfl,h⟩
 obtain rfl:=(h.sl 0 rfl).2
 obtain rfl:=(h.sl 1 rfl).2
 obtain rfl:=(h.sl 2 rfl).2
 rcases m1 with _|m1
 ·cases hF
 refine X0 9 rfl (qm rfl hF ?_ ?_)<;>intro hF
 ·refine X0 4 rfl (rD (zd1 rfl ?_))
  obtain ⟨y2,hy2,hF⟩:=qe hF
  obtain ⟨b3,o_2,cs4,rfl,-,hr3,hc3⟩:=PtR.get s1 hy2
  obtain ⟨p8,k7,p9,k8,p10,k9,p11,k10,p12,k11,p13,k12,p14,k13,p15,k14,p16,k15,p17,k16,rfl,s5,s6,s7,s8,s9,s10,s11,s12,s13,s14⟩:=qjl hr3
  refine zd3 rfl (zdc 1 (hc3.below h.below) rfl (zd4 rfl (zdc 0 (hc3.below h.below) rfl (zd3 rfl ?_))))
  obtain ⟨y3,hy3,hF,he2,b4,_,q2,cs5,hp3,hq2,rfl,hc4⟩:=(h.oldS (h.seeS 3 rfl)).ix hF
  refine zdx hp3 hq2 ⟨he2.1,qN he2.2.1 rfl⟩ rfl (zdc 0 hc4 rfl ?_)
  obtain ⟨r2,hr5,hF⟩:=qe hF
  refine qcg r2 (vsI _) (cB 94 rfl) (fun _ hb=>qg8 (qat _ ((h.ext hb).oldS s6) ((h.ext hb).oldS s7) ((h.ext hb).oldS s8)) (qbw _ ((h.ext hb).oldS s5)) hr5) rfl rfl rfl rfl (zd1 rfl (dN h fun w15 h=>X0 4 rfl ?_))
  obtain ⟨y4,hy4,hF,he3,b5,_,q3,cs6,hp4,hq3,rfl,hc5⟩:=(h.oldS (h.seeS 3 rfl)).ix hF
  refine zx hp4 hq3 ⟨he3.1,qN he3.2.1 rfl⟩ rfl (zc 0 hc5 rfl (X0 7 rfl (qm rfl hF ?_ ?_)))<;>intro hF
  ·refine X1 4 4 h rfl (ql qb [.tmp 66] _ ([r2]:List Int) h rfl rfl rfl rfl rfl rfl rfl rfl rfl ⟨rfl,trivial⟩ rfl fun w16 p18 S5 h=>?_)
   obtain ⟨x6,hx2,hF⟩:=qe hF
   obtain ⟨g2,hx2⟩:=qw hx2
   refine qak qb 3 h rfl (h.sl 0 rfl).1 (h.sl 0 rfl).2 rfl rfl rfl rfl rfl rfl rfl rfl rfl g2 hx2 rfl fun w17 p19 k17 S6 h=>zp1 rfl (zs 5 h rfl fun w18 h=>X0 8 rfl ?_)
   replace h:=h.pick [1,2,3,4,5,6] rfl
   exact rK ⟨_,_,_,_,_,_,_,_,_,_,_,_,_,_,_,_,hF,rfl,h⟩ rfl
  refine X0 5 rfl (qm rfl hF ?_ ?_)<;>intro hF
  ·refine X1 4 4 h rfl (ql qb [.tmp 74] _ ([r2]:List Int) h rfl rfl rfl rfl rfl rfl rfl rfl rfl ⟨rfl,trivial⟩ rfl fun w19 p20 S7 h=>?_)
   obtain ⟨x7,hx3,hF⟩:=qe hF
   obtain ⟨g3,hx3⟩:=qw hx3
   refine qak qb 2 h rfl (h.sl 0 rfl).1 (h.sl 0 rfl).2 rfl rfl rfl rfl rfl rfl rfl rfl rfl g3 hx3 rfl fun w20 p21 k18 S8 h=>zp1 rfl (zs 5 h rfl fun w21 h=>X0 8 rfl ?_)
   replace h:=h.pick [1,2,3,4,5,6] rfl
   exact rK ⟨_,_,_,_,_,_,_,_,_,_,_,_,_,_,_,_,hF,rfl,h⟩ rfl
  refine X0 5 rfl (qm rfl hF ?_ ?_)<;>intro hF
  ·refine X1 4 4 h rfl (ql qb [.tmp 82] _ ([r2]:List Int) h rfl rfl rfl rfl rfl rfl rfl rfl rfl ⟨rfl,trivial⟩ rfl fun w22 p22 S9 h=>?_)
   obtain ⟨x8,hx4,hF⟩:=qe hF
   obtain ⟨g4,hx4⟩:=qw hx4
   refine qak qb 1 h rfl (h.sl 0 rfl).1 (h.sl 0 rfl).2 rfl rfl rfl rfl rfl rfl rfl rfl rfl g4 hx4 rfl fun w23 p23 k19 S10 h=>zp1 rfl (zs 5 h rfl fun w24 h=>X0 8 rfl ?_)
   replace h:=h.pick [1,2,3,4,5,6] rfl
   exact rK ⟨_,_,_,_,_,_,_,_,_,_,_,_,_,_,_,_,hF,rfl,h⟩ rfl
  exact X0 8 rfl (rK ⟨_,_,_,_,_,_,_,_,_,_,_,_,_,_,_,_,hF,rfl,h⟩ rfl)
 refine qy rfl ?_
 obtain rfl:=qd hF;replace hF:=hK1
 refine X1 3 4 h rfl (zs 5 h rfl fun w25 h=>qa5 ?_)
 obtain rfl:=qd hF
 exact qbn qb (ρ:=qa) [GoT.v qa [.int .i64 r1,.int .i64 i1,.slice p7 x5.length k6,.slice p6 x4.length k5,.slice p5 x3.length k4]] h ⟨⟨_,_,_,rfl,rfl,h.box 5 rfl,rfl⟩,trivial⟩ (PV.done h (qdq (qbu (⟨r1,i1,x5,x4,x3⟩:qa) h (qC (S:=fun _=>False) rfl) (qC (S:=fun _=>False) rfl) (qB 2 h rfl) (qB 1 h rfl) (qB 0 h rfl) (by rfl) (by rfl) (by rfl) (by rfl))))
def qfj (_:Nat) (s sep:ByteArray):Option (List ByteArray) :=
 if s.size<4294967281∧1≤sep.size then some (Lib.splitB sep 0 (Lib.countB s sep) s) else none
theorem qj3 {s sep:ByteArray} (hgv1:GVE 1 isIntC w (old w)) {r:List ByteArray} (hF:qfj n s sep=some r):RetV Tryz.prog 49 [.string s,.string sep] w r:=by
 unfold qfj at hF
 split at hF
 ·rename_i hh
  obtain rfl:=qd hF
  obtain ⟨m,hm⟩:=hgv1.int
  refine (Tryz.strings_Split s sep m w hh.1 hm hh.2).mono ?_
  rintro e w' ⟨rfl,rfl⟩
  have hl:=Lib.splitB_all sep hh.2 0 _ s rfl
  have hle:=Lib.countB_le sep hh.2 s.size s (jf _)
  have hlt:=hh.1
  rw [←hl]
  exact ⟨_,rfl,(Below.refl _ _).alloc (jf _) _,[_],rfl,qp4 (by rw [hl];simp [maxLen];omega)⟩
 cases hF
def qcs (n:Nat) (b:qc) (s:ByteArray):Option (qa × Bool) :=
 (qff n b).bind fun r1 =>
 bif (!r1) then some ((⟨0,0,[],[],[]⟩:qa),false) else
 (qfb n b).bind fun r2 =>
 (qfj n s (⟨#[32]⟩:ByteArray)).bind fun r3 =>
 (qcE n r2 r3).bind fun r4 =>
 (qaO n r2 r4).bind fun r5 =>
 bif (!r5) then some ((⟨0,0,[],[],[]⟩:qa),false) else
 (qaS n r2 r4).bind fun r6 =>
 bif (r6.toList != s.toList) then some ((⟨0,0,[],[],[]⟩:qa),false) else
 some (r4,true)
theorem qik {b:qc} {s:ByteArray} (ha1:GoT.R w (old w) b cs1) (hgv0:GV 0 (exWords.map Value.string) w (old w)) (hgv1:GVE 1 isIntC w (old w)) (hgv2:GV 2 (Lib.pow10Tab.map (Value.int .u64)) w (old w)) (hgv3:GVE 3 isErrC w (old w)) (hgv4:GVE 4 isErrC w (old w)) {r:(qa × Bool)} (hF:qcs n b s=some r):RetV Tryz.prog 18 [GoT.v qc cs1,.string s] w r:=by
 obtain ⟨p1,k1,p2,k2,p3,k3,p4,k4,p5,k5,rfl,s1,s2,s3,s4,s5⟩:=qT ha1
 refine zV 31 Tryz.func18 rfl fun h=>zSR (qO h rfl rfl fun w1 bb1 h=>qx qb h rfl rfl rfl fun w2 bb2 h=>X1 6 1 h rfl (zcB h hF (qgw (h.old ha1)) rfl fun r1 w3 h hF=>X0 2 rfl (qm rfl hF ?_ ?_)))<;>intro hF
 ·refine zSR (r_v (qah qb [] [] rfl rfl rfl rfl rfl rfl rfl rfl) rfl (zs 0 h rfl fun w4 h=>X0 2 rfl ?_))
  obtain rfl:=qd hF
  exact qbn qb (ρ:=(qa × Bool)) [GoT.v qa [.int .i64 0,.int .i64 0,.slice none 0 0,.slice none 0 0,.slice none 0 0],GoT.v Bool [.bool false]] h ⟨⟨_,_,_,rfl,rfl,h.box 0 rfl,rfl⟩,rfl,trivial⟩ (PV.done h (qdZ h (qbu (⟨0,0,[],[],[]⟩:qa) h (qC (S:=fun _=>False) rfl) (qC (S:=fun _=>False) rfl) qfP qfP qfP (by rfl) (by rfl) (by rfl) (by rfl)) (qdq (qC (S:=fun _=>False) rfl)) (by rfl)))
 refine X1 4 1 h rfl ?_
 have hg1:Rg (old w) w (old w) w:=.start (fun _ h=>h)
 obtain ⟨r2,hr2,hF⟩:=qe hF
 refine ql6 r2 hg1 h (cB 37 rfl) (qgx (hg1.regOld h) (hg1.inR h ha1) hr2) rfl rfl rfl rfl fun w5 us1 B1 hg2 hu1 hz1 hv1=>?_
 have hL1:=h.ext hu1.below
 have hc2:=Up.box 0 h hu1 rfl
 have ha2:=Up.boxP (x:=(⟨0,0,[],[],[]⟩:qa)) hg1 0 h hu1 rfl (qiP (⟨0,0,[],[],[]⟩:qa) qgS qgS qgS)
 have s6:=Up.R hg1 h hu1 hgv0
 have s7:=Up.R hg1 h hu1 hgv1
 have s8:=Up.R hg1 h hu1 hgv2
 have s9:=Up.R hg1 h hu1 hgv3
 have s10:=Up.R hg1 h hu1 hgv4
 have hb1:=h.below.trans (hu1.below.mono h.below.size)
 replace h:=hz1
 obtain ⟨cs2,rfl,hr3⟩:=qh2 hv1
 obtain ⟨p6,rfl,s11⟩:=qhO hr3
 refine X0 6 rfl (zcL h hF (qj3 (h.old (GoT.mono s7 hg2.old))) rfl fun r3 w6 S1 p7 k6 h hF=>zcO h hF (qg2 (h.old (GoT.mono s11 hg2.old)) (h.own 0 rfl) (h.old (GoT.mono s6 hg2.old)) (h.old (GoT.mono s8 hg2.old)) (h.old (GoT.mono s9 hg2.old)) (h.old (GoT.mono s10 hg2.old))) rfl fun r4 w7 S2 cs3 h hF=>?_)
 obtain ⟨p8,k7,p9,k8,p10,k9,rfl,-,-,-⟩:=qX (h.own 0 rfl)
 refine qx qb h rfl rfl rfl fun w8 bb3 h=>zs 0 h rfl fun w9 h=>X1 6 0 h rfl (zcB h hF (qdU (h.old (GoT.mono s11 hg2.old)) (h.own 1 rfl)) rfl fun r5 w10 h hF=>zp2 rfl (qi (t:=22) hF rfl ?_ ?_))<;>intro hF
 ·refine X0 7 rfl (qdP rfl rfl (zSR (r_v (qah qb [] [] rfl rfl rfl rfl rfl rfl rfl rfl) rfl ?_)))
  replace h:=SH.back hL1 h ⟨fun _ h=>h,⟨fun _ h=>h,⟨fun _ h=>h,trivial⟩⟩⟩
  refine zs 3 h rfl fun w12 h=>X0 2 rfl ?_
  replace h:=h.unbase hg1.below ⟨fun _ h=>h,⟨fun _ h=>h,⟨fun _ h=>h,⟨fun _ h=>h,⟨fun _ h=>h,trivial⟩⟩⟩⟩⟩
  obtain rfl:=qd hF
  exact qbn qb (ρ:=(qa × Bool)) [GoT.v qa [.int .i64 0,.int .i64 0,.slice none 0 0,.slice none 0 0,.slice none 0 0],GoT.v Bool [.bool false]] h ⟨⟨_,_,_,rfl,rfl,h.box 3 rfl,rfl⟩,rfl,trivial⟩ (PV.done h (qdZ h (qbu (⟨0,0,[],[],[]⟩:qa) h (qC (S:=fun _=>False) rfl) (qC (S:=fun _=>False) rfl) qfP qfP qfP (by rfl) (by rfl) (by rfl) (by rfl)) (qdq (qC (S:=fun _=>False) rfl)) (by rfl)))
 refine X1 5 0 h rfl (zcS h hF (qeX (h.old (GoT.mono s11 hg2.old)) (h.own 1 rfl) (h.old (GoT.mono s6 hg2.old)) (h.old (GoT.mono s8 hg2.old))) rfl fun r6 w13 h hF=>X0 6 rfl (qm rfl hF ?_ ?_))<;>intro hF
 ·refine zSR (r_v (qah qb [] [] rfl rfl rfl rfl rfl rfl rfl rfl) rfl ?_)
  replace h:=SH.back hL1 h ⟨fun _ h=>h,⟨fun _ h=>h,⟨fun _ h=>h,trivial⟩⟩⟩
  refine zs 3 h rfl fun w15 h=>X0 2 rfl ?_
  replace h:=h.unbase hg1.below ⟨fun _ h=>h,⟨fun _ h=>h,⟨fun _ h=>h,⟨fun _ h=>h,⟨fun _ h=>h,trivial⟩⟩⟩⟩⟩
  obtain rfl:=qd hF
  exact qbn qb (ρ:=(qa × Bool)) [GoT.v qa [.int .i64 0,.int .i64 0,.slice none 0 0,.slice none 0 0,.slice none 0 0],GoT.v Bool [.bool false]] h ⟨⟨_,_,_,rfl,rfl,h.box 3 rfl,rfl⟩,rfl,trivial⟩ (PV.done h (qdZ h (qbu (⟨0,0,[],[],[]⟩:qa) h (qC (S:=fun _=>False) rfl) (qC (S:=fun _=>False) rfl) qfP qfP qfP (by rfl) (by rfl) (by rfl) (by rfl)) (qdq (qC (S:=fun _=>False) rfl)) (by rfl)))
 refine X1 4 0 h rfl ?_
 replace h:=SH.back hL1 h ⟨fun _ h=>h,⟨fun _ h=>h,⟨fun _ h=>h,trivial⟩⟩⟩
 refine zs 3 h rfl fun w17 h=>X0 2 rfl ?_
 replace h:=h.unbase hg1.below ⟨fun _ h=>h,⟨fun _ h=>h,⟨fun _ h=>h,⟨fun _ h=>h,⟨fun _ h=>h,trivial⟩⟩⟩⟩⟩
 obtain rfl:=qd hF
 exact qbn qb (ρ:=(qa × Bool)) [GoT.v qa (qbo r4 p8 p9 p10 k7 k8 k9),GoT.v Bool [.bool true]] h ⟨⟨_,_,_,rfl,rfl,h.box 3 rfl,rfl⟩,rfl,trivial⟩ (PV.done h (qdZ h (qB 1 h rfl) (qdq (qC (S:=fun _=>False) rfl)) (by rfl)))
end Go.Fw
