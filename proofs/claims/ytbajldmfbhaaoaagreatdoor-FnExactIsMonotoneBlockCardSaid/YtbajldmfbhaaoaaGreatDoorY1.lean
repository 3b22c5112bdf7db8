/- By a program of mine (gen.py): for each function a plain function and the proof that the code computes it. -/
import Derived.Test.YtbajldmfbhaaoaaGreatDoorU2
import Derived.Test.YtbajldmfbhaaoaaGreatDoorA2
import Derived.Test.YtbajldmfbhaaoaaGreatDoorFw38
open Option renaming bind_some → jd
open Nat renaming le_refl → je, lt_of_lt_of_le → jp, mul_le_mul_right → jq, le_of_ble_eq_true → jr, succ_mul → jx
open Go.Result renaming andThen_ok → jf
open Bool renaming and_eq_true → jg, eq_iff_iff → ji, true_and → jy, not_eq_true' → jA
open List renaming getElem?_eq_getElem → jh, length_append → jm, getElem_mem → jn, mem_cons_of_mem → jo, getElem?_append_left → js, mem_cons_self → jt, getElem?_append_right → ju, eq_nil_of_length_eq_zero → jv, getElem?_take → jw, getElem?_toArray → jz, size_toArray → jB, append_assoc → jC, map_cons → jD
open Go.Sem renaming run_bind → jj, run_pure → jk

namespace Go.Fw
open Go Go.Proofs
open Go.RowKit (Below)
set_option maxRecDepth 100000
set_option maxHeartbeats 1600000
variable {n:Nat} {w:World} {cs1 cs2 cs3 cs4 cs5 cs6 cs7 cs8 cs9:List Value}
def qO (t:qb):Nat→Int→Option (Flow Bool Int)
 | 0,_=>none
 | n+1,i1 =>
  bif decide (i1<(t.Ab.length:Int)) then
   (remS i1 (t.Aq.length:Int)).bind fun y1 =>
   bif decide (y1 > 0) then
    (idx t.Ab (W64 (i1-1))).bind fun y2 =>
    (idx t.Ab i1).bind fun y3 =>
    bif decide (y2 > y3) then some (.ret false) else
    bif decide (i1 ≥ (t.Aq.length:Int)) then
     (idx t.Ab (W64 (i1-(t.Aq.length:Int)))).bind fun y4 =>
     (idx t.Ab i1).bind fun y5 =>
     bif decide (y4 > y5) then some (.ret false) else
     qO t n (W64 (i1+1))
    else
     qO t n (W64 (i1+1))
   else
    bif decide (i1 ≥ (t.Aq.length:Int)) then
     (idx t.Ab (W64 (i1-(t.Aq.length:Int)))).bind fun y6 =>
     (idx t.Ab i1).bind fun y7 =>
     bif decide (y6 > y7) then some (.ret false) else
     qO t n (W64 (i1+1))
    else
     qO t n (W64 (i1+1))
  else
   some (.nxt i1)
def qdY (n:Nat) (t:qb):Option Bool :=
 (qeu n t).bind fun r1 =>
 bif (!r1) then some false else
 (qO t n 0).bind fun o=>match o with
 | .ret r=>some r
 | .nxt _ =>
  some true
theorem qhM {t:qb} (ha1:GoT.R w (old w) t cs1) {r:Bool} (hF:qdY n t=some r):RetV Tryz.prog 119 [GoT.v qb cs1] w r:=by
 obtain ⟨p1,k1,p2,k2,p3,k3,rfl,s1,s2,s3⟩:=qN ha1
 refine zV 56 Tryz.func119 rfl fun h=>zSR (qy h rfl rfl fun w1 bb1 h=>X1 6 0 h rfl (zcB h hF (qgG (h.old ha1)) rfl fun r1 w2 h hF=>X0 2 rfl (qf rfl hF ?_ ?_)))<;>intro hF
 ·exact X0 4 rfl (rb h hF rfl)
 refine X1 13 0 h rfl ?_
 obtain ⟨o1,hF,hK1⟩:=qi hF
 refine qj (rL (fun m e w'=>∃ (i1:Int),qO t m i1=some o1∧e=[(1,.pointer (some ⟨bb1,0,none⟩)),(3,.int .i64 (t.Aq.length:Int)),(4,.int .i64 i1)]∧SH w w' [Ch.box bb1 (qfH t p1 p2 p3 k1 k2 k3) 142]) n ⟨_,hF,rfl,h⟩ rfl ?_)
 rintro m1 e1 w3 ⟨i1,hF,rfl,h⟩
 rcases m1 with _|m1
 ·cases hF
 refine X1 9 0 h rfl (qf rfl hF ?_ ?_)<;>intro hF
 ·refine X0 4 rfl (rD (zd2 rfl ?_))
  obtain ⟨y1,hx1,hF⟩:=qi hF
  obtain ⟨g1,hx1⟩:=qj2 hx1
  refine d_v (fun _ hb=>qnU g1 rfl rfl) rfl ?_
  rw [hx1]
  refine zd2 rfl (qaA (t:=22) hF rfl ?_ ?_)<;>intro hF
  ·refine Y1 4 0 h rfl ?_
   refine Y0 5 rfl ?_
   obtain ⟨y2,hy1,hF,he1,b1,_,q1,cs2,hp1,hq1,rfl,hc3⟩:=s3.ix hF
   refine zdxe hp1 hq1 he1 rfl (Y0 1 rfl (zdc 0 (hc3.below h.below) rfl (Y1 4 0 h rfl ?_)))
   refine Y0 3 rfl ?_
   obtain ⟨y3,hy2,hF,he2,b2,_,q2,cs3,hp2,hq2,rfl,hc4⟩:=s3.ix hF
   refine zdxe hp2 hq2 he2 rfl (Y0 1 rfl (zdc 0 (hc4.below h.below) rfl (Y0 4 rfl (qaA (t:=36) hF rfl ?_ ?_))))<;>intro hF
   ·refine Y0 19 rfl (dN h fun w4 h=>qcv rfl rfl (X0 4 rfl ?_))
    obtain rfl:=qa hF;replace hF:=hK1
    exact rb h hF rfl
   refine Y0 8 rfl (qaA (t:=40) hF rfl ?_ ?_)<;>intro hF
   ·refine Y1 4 0 h rfl ?_
    refine Y0 7 rfl ?_
    obtain ⟨y4,hy3,hF,he3,b3,_,q3,cs4,hp3,hq3,rfl,hc5⟩:=s3.ix hF
    refine zdxe hp3 hq3 he3 rfl (Y0 1 rfl (zdc 0 (hc5.below h.below) rfl (Y1 4 0 h rfl ?_)))
    refine Y0 3 rfl ?_
    obtain ⟨y5,hy4,hF,he4,b4,_,q4,cs5,hp4,hq4,rfl,hc6⟩:=s3.ix hF
    refine zdxe hp4 hq4 he4 rfl (Y0 1 rfl (zdc 0 (hc6.below h.below) rfl (Y0 5 rfl (dN h fun w5 h=>qf rfl hF ?_ ?_))))<;>intro hF
    ·refine X0 4 rfl ?_
     obtain rfl:=qa hF;replace hF:=hK1
     exact rb h hF rfl
    exact X0 7 rfl (rK ⟨_,hF,rfl,h⟩ rfl)
   exact Y0 16 rfl (dN h fun w6 h=>qcS rfl rfl (X0 7 rfl (rK ⟨_,hF,rfl,h⟩ rfl)))
  refine Y0 22 rfl (qaA (t:=40) hF rfl ?_ ?_)<;>intro hF
  ·refine Y1 4 0 h rfl ?_
   refine Y0 7 rfl ?_
   obtain ⟨y6,hy5,hF,he5,b5,_,q5,cs6,hp5,hq5,rfl,hc8⟩:=s3.ix hF
   refine zdxe hp5 hq5 he5 rfl (Y0 1 rfl (zdc 0 (hc8.below h.below) rfl (Y1 4 0 h rfl ?_)))
   refine Y0 3 rfl ?_
   obtain ⟨y7,hy6,hF,he6,b6,_,q6,cs7,hp6,hq6,rfl,hc9⟩:=s3.ix hF
   refine zdxe hp6 hq6 he6 rfl (Y0 1 rfl (zdc 0 (hc9.below h.below) rfl (Y0 5 rfl (dN h fun w7 h=>qf rfl hF ?_ ?_))))<;>intro hF
   ·refine X0 4 rfl ?_
    obtain rfl:=qa hF;replace hF:=hK1
    exact rb h hF rfl
   exact X0 7 rfl (rK ⟨_,hF,rfl,h⟩ rfl)
  exact Y0 16 rfl (dN h fun w8 h=>qcS rfl rfl (X0 7 rfl (rK ⟨_,hF,rfl,h⟩ rfl)))
 refine qn rfl ?_
 obtain rfl:=qa hF;replace hF:=hK1
 exact X0 4 rfl (rb h hF rfl)
def qa3 (list:(List qb)):Nat→Int→Option (Flow Bool Int)
 | 0,_=>none
 | n+1,i1 =>
  bif decide (i1<(list.length:Int)) then
   (idx list i1).bind fun y1 =>
   (qdY n y1).bind fun r1 =>
   bif (!r1) then some (.ret false) else
   qa3 list n (W64 (i1+1))
  else
   some (.nxt i1)
def qcK (n:Nat) (list:(List qb)):Option Bool :=
 (qa3 list n 0).bind fun o=>match o with
 | .ret r=>some r
 | .nxt _ =>
  some true
theorem qfa {list:(List qb)} (ha1:GoT.R w (old w) list cs1) {r:Bool} (hF:qcK n list=some r):RetV Tryz.prog 65 [GoT.v (List qb) cs1] w r:=by
 obtain ⟨p1,k1,rfl,s1⟩:=ha1
 refine zV 16 Tryz.func65 rfl fun h=>X0 9 rfl ?_
 obtain ⟨o1,hF,hK1⟩:=qi hF
 refine qj (rL (fun m e w'=>∃ (i1:Int),qa3 list m i1=some o1∧e=[(0,.slice p1 list.length k1),(3,.int .i64 i1)]∧SH w w' []) n ⟨_,hF,rfl,h⟩ rfl ?_)
 rintro m1 e1 w1 ⟨i1,hF,rfl,h⟩
 rcases m1 with _|m1
 ·cases hF
 refine X0 8 rfl (qf rfl hF ?_ ?_)<;>intro hF
 ·refine X0 7 rfl ?_
  obtain ⟨y1,hy1,hF,he1,b1,_,q1,cs2,hp1,hq1,hr1,hc2⟩:=s1.ix hF
  obtain ⟨p2,k2,p3,k3,p4,k4,rfl,s2,s3,s4⟩:=qN hr1
  refine zxe hp1 hq1 he1 rfl (zc 0 (hc2.below h.below) rfl (zcB h hF (qhM (qdk y1 (h.oldS s2) (h.oldS s3) (h.oldS s4))) rfl fun r1 w2 h hF=>X0 2 rfl (qf rfl hF ?_ ?_)))<;>intro hF
  ·refine X0 4 rfl ?_
   obtain rfl:=qa hF;replace hF:=hK1
   exact rb h hF rfl
  exact X0 7 rfl (rK ⟨_,hF,rfl,h⟩ rfl)
 refine qn rfl ?_
 obtain rfl:=qa hF;replace hF:=hK1
 exact X0 4 rfl (rb h hF rfl)
def qag (y1:ql):Nat→Int→Option (Flow Bool Int)
 | 0,_=>none
 | n+1,i2 =>
  bif decide (i2<(y1.Af.length:Int)) then
   (idx y1.Af i2).bind fun y2 =>
   bif decide (y2.Ar≤3) then
    (idx y1.Af i2).bind fun y3 =>
    (qcK n y3.Au).bind fun r2 =>
    bif (!r2) then some (.ret false) else
    (idx y1.Af i2).bind fun y4 =>
    (qcK n y4.Bb).bind fun r3 =>
    bif (!r3) then some (.ret false) else
    qag y1 n (W64 (i2+1))
   else
    qag y1 n (W64 (i2+1))
  else
   some (.nxt i2)
def qaz (b:qq):Nat→Int→Option (Flow Bool Int)
 | 0,_=>none
 | n+1,i1 =>
  bif decide (i1<(b.As.Ai.length:Int)) then
   (idx b.As.Ai i1).bind fun y1 =>
   (qag y1 n 0).bind fun o=>match o with
   | .ret r=>some (.ret r)
   | .nxt _ =>
    qaz b n (W64 (i1+1))
  else
   some (.nxt i1)
def qbn (n:Nat) (b:qq):Option Bool :=
 (qfo n b).bind fun r1 =>
 bif (!r1) then some false else
 (qaz b n 0).bind fun o=>match o with
 | .ret r=>some r
 | .nxt _ =>
  some true
theorem qge {b:qq} (ha1:GoT.R w (old w) b cs1) {r:Bool} (hF:qbn n b=some r):RetV Tryz.prog 28 [GoT.v qq cs1] w r:=by
 obtain ⟨p1,k1,p2,k2,p3,k3,p4,k4,p5,k5,rfl,s1,s2,s3,s4,s5⟩:=qa7 ha1
 refine zV 54 Tryz.func28 rfl fun h=>zSR (qy h rfl rfl fun w1 bb1 h=>X1 6 0 h rfl (zcB h hF (qiC (h.old ha1)) rfl fun r1 w2 h hF=>X0 2 rfl (qf rfl hF ?_ ?_)))<;>intro hF
 ·exact X0 4 rfl (rb h hF rfl)
 refine X0 6 rfl ?_
 obtain ⟨o1,hF,hK1⟩:=qi hF
 refine qj (rL (fun m e w'=>∃ (i1:Int),qaz b m i1=some o1∧e=[(1,.pointer (some ⟨bb1,0,none⟩)),(3,.int .i64 i1)]∧SH w w' [Ch.box bb1 (qfR b p1 p2 p3 p4 p5 k1 k2 k3 k4 k5) 57]) n ⟨_,hF,rfl,h⟩ rfl ?_)
 rintro m1 e1 w3 ⟨i1,hF,rfl,h⟩
 rcases m1 with _|m1
 ·cases hF
 refine X1 10 0 h rfl (qf rfl hF ?_ ?_)<;>intro hF
 ·refine X1 9 0 h rfl ?_
  obtain ⟨y1,hy1,hF,he1,b1,_,q1,cs2,hp1,hq1,hr2,hc3⟩:=s1.ix hF
  obtain ⟨p6,k6,p7,k7,p8,k8,rfl,s6,s7,s8⟩:=qD hr2
  refine zxe hp1 hq1 he1 rfl (zp1 rfl (zc 3 (hc3.below h.below) rfl (X0 6 rfl ?_)))
  obtain ⟨o2,hF,hK2⟩:=qi hF
  refine qj (rL (fun m e w'=>∃ (i2:Int),qag y1 m i2=some o2∧e=[(1,.pointer (some ⟨bb1,0,none⟩)),(3,.int .i64 i1),(4,.slice p7 y1.Af.length k7),(5,.int .i64 i2)]∧SH w w' [Ch.box bb1 (qfR b p1 p2 p3 p4 p5 k1 k2 k3 k4 k5) 57]) m1 ⟨_,hF,rfl,h⟩ rfl ?_)
  rintro m2 e2 w4 ⟨i2,hF,rfl,h⟩
  rcases m2 with _|m2
  ·cases hF
  refine X0 8 rfl (qf rfl hF ?_ ?_)<;>intro hF
  ·refine X0 7 rfl ?_
   obtain ⟨y2,hy2,hF,he2,b2,_,q2,cs3,hp2,hq2,hr3,hc5⟩:=s7.ix hF
   obtain ⟨p9,k9,p10,k10,rfl,s9,s10⟩:=qK hr3
   refine zxe hp2 hq2 he2 rfl (zp1 rfl (zc 0 (hc5.below h.below) rfl (zp2 rfl (qe (t:=36) hF rfl ?_ ?_))))<;>intro hF
   ·refine X0 5 rfl ?_
    obtain ⟨y3,hy3,hF,he3,b3,_,q3,cs4,hp3,hq3,hr4,hc6⟩:=s7.ix hF
    obtain ⟨p11,k11,p12,k12,rfl,s11,s12⟩:=qK hr4
    refine zxe hp3 hq3 he3 rfl (X0 3 rfl (zc 4 (hc6.below h.below) rfl (X0 1 rfl (zcB h hF (qfa ⟨_,_,rfl,(h.oldS s11)⟩) rfl fun r2 w5 h hF=>X0 4 rfl (qe (t:=44) hF rfl ?_ ?_)))))<;>intro hF
    ·refine X0 11 rfl (qcv rfl rfl (X0 4 rfl ?_))
     obtain rfl:=qa hF;replace hF:=hK2
     obtain rfl:=qa hF;replace hF:=hK1
     exact rb h hF rfl
    refine X0 5 rfl ?_
    obtain ⟨y4,hy4,hF,he4,b4,_,q4,cs5,hp4,hq4,hr6,hc7⟩:=s7.ix hF
    obtain ⟨p13,k13,p14,k14,rfl,s13,s14⟩:=qK hr6
    refine zxe hp4 hq4 he4 rfl (X0 3 rfl (zc 5 (hc7.below h.below) rfl (X0 1 rfl (zcB h hF (qfa ⟨_,_,rfl,(h.oldS s14)⟩) rfl fun r3 w6 h hF=>X0 6 rfl (qf rfl hF ?_ ?_)))))<;>intro hF
    ·refine X0 4 rfl ?_
     obtain rfl:=qa hF;replace hF:=hK2
     obtain rfl:=qa hF;replace hF:=hK1
     exact rb h hF rfl
    exact X0 7 rfl (rK ⟨_,hF,rfl,h⟩ rfl)
   exact X0 18 rfl (qcS rfl rfl (X0 7 rfl (rK ⟨_,hF,rfl,h⟩ rfl)))
  refine qn rfl ?_
  obtain rfl:=qa hF;replace hF:=hK2
  exact X0 6 rfl (rK ⟨_,hF,rfl,h⟩ rfl)
 refine qn rfl ?_
 obtain rfl:=qa hF;replace hF:=hK1
 exact X0 4 rfl (rb h hF rfl)
def qP (_:Nat) (a_n:Int):Option (List qb) :=
 (
  bif decide (a_n<0) then none else
  some ()).bind fun _ =>
 bif decide ((W64 (a_n-(W64 (0-((0:Nat):Int))))) > 0) then
  (mkS (W64 (a_n-(W64 (0-((0:Nat):Int))))) ((⟨[],[],[]⟩:qb):qb)).bind fun x1 =>
  (subS x1 0 ((0:Nat):Int)).bind fun x2 =>
  some x2
 else
  some []
theorem qeZ {a_n:Int}  {r:(List qb)} (hF:qP n a_n=some r):RetV Tryz.prog 123 [.slice none 0 0,.int .i64 a_n] w r:=by
 refine zV 27 Tryz.func123 rfl fun h=>X0 10 rfl ?_
 obtain ⟨KF1,hKF1,o1,hF,hK1⟩:=bindE hF
 refine qc3 (fun e w'=>KF1 ()=some r∧e=[(0,.slice none 0 0),(1,.int .i64 a_n)]∧SH w w' []) ?_ ?_
 ·refine qf rfl hF ?_ ?_<;>intro hF
  ·refine qe0 ?_
   cases hF
  refine qfI ?_
  obtain rfl:=qa hF
  exact rG ⟨hK1,rfl,h⟩ rfl
 rintro e1 w2 ⟨hF,rfl,h⟩
 subst hKF1
 refine X0 5 rfl (r_v (qnZ qk rfl rfl rfl) rfl (X0 11 rfl (qf rfl hF ?_ ?_)))<;>intro hF
 ·refine X0 3 rfl (r_v (qnZ qk rfl rfl rfl) rfl (r_v (qhR qk rfl rfl rfl (by decide) rfl rfl rfl rfl rfl rfl rfl) rfl (zp1 rfl ?_)))
  obtain ⟨x1,hx1,hF⟩:=qi hF
  obtain ⟨g1,g2,hx1⟩:=qcj hx1
  refine qoq qk qb h rfl rfl rfl rfl rfl rfl rfl rfl rfl rfl rfl g1 g2 hx1 rfl fun w1 S1 p1 k1 h=>zp2 rfl ?_
  obtain ⟨x2,hx2,hF⟩:=qi hF
  obtain ⟨p2,k2,hp1,hk1,hl1,g3⟩:=qlg (h.sl 0 rfl).1 hx2
  refine r_v (qhR qk rfl rfl rfl (qle g3 (h.sl 0 rfl).2) hp1 hk1 hl1 rfl rfl rfl rfl) rfl ?_
  replace h:=h.cutS 0 rfl hx2 hp1 hk1
  refine X0 7 rfl ?_
  obtain rfl:=qa hF
  exact rO 0 h rfl ⟨rfl,trivial⟩
 refine X0 6 rfl ?_
 obtain rfl:=qa hF
 exact qcs qk (ρ:=(List qb)) [GoT.v (List qb) [.slice none 0 0]] h ⟨rfl,trivial⟩ (PV.done h (qcP qog))
theorem qe5 {n:Nat} {k:Int} {r:(List qb)} (h:qP n k=some r):r=[]:=by
 revert r
 show Emp (qP n k)
 unfold qP
 repeat' first|with_reducible exact Emp.none|with_reducible exact Emp.noneB|with_reducible exact Emp.nil|with_reducible refine Emp.someB ?_|with_reducible refine Emp.bifB ?_ ?_|with_reducible refine Emp.bif ?_ ?_|with_reducible refine Emp.subB ?_|with_reducible refine Emp.sub ?_|with_reducible refine Emp.assoc fun _=>?_|with_reducible refine Emp.bind fun _=>?_
def qav (slices:(List (List qb))):Nat→(List qb)→Int→Option ((List qb) × Int)
 | 0,_,_=>none
 | n+1,x1,i3 =>
  bif decide (i3<(slices.length:Int)) then
   (idx slices i3).bind fun y2 =>
   (appS x1 y2).bind fun x2 =>
   qav slices n x2 (W64 (i3+1))
  else
   some (x1,i3)
def qau (slices:(List (List qb))):Nat→Int→Int→Option (Int × Int)
 | 0,_,_=>none
 | n+1,i1,i2 =>
  bif decide (i2<(slices.length:Int)) then
   (idx slices i2).bind fun y1 =>
   bif decide ((W64 (i1+(y1.length:Int)))<0) then none else
   qau slices n (W64 (i1+(y1.length:Int))) (W64 (i2+1))
  else
   some (i1,i2)
def qbk (n:Nat) (slices:(List (List qb))):Option (List qb) :=
 (qau slices n 0 0).bind fun o=>match o with
 | (i1,_) =>
  (qP n i1).bind fun _ =>
  (qav slices n ([]:List qb) 0).bind fun o=>match o with
  | (x1,_) =>
   some x1
theorem qfr {slices:(List (List qb))} (ha1:GoT.R w (old w) slices cs1) {r:(List qb)} (hF:qbk n slices=some r):RetG Tryz.prog 67 [GoT.v (List (List qb)) cs1] w (old w) r:=by
 obtain ⟨p1,k1,rfl,s1⟩:=ha1
 have hg:Rg (old w) w (old w) w:=.start (fun _ h=>h)
 refine qkE Tryz.func67 rfl (m:=36) rfl rfl (fun h=>?_)
 refine X0 15 rfl ?_
 obtain ⟨o1,hF,hK1⟩:=qi hF
 refine qj (rL (fun m e w'=>∃ (i1:Int) (i2:Int),qau slices m i1 i2=some o1∧e=[(0,.slice p1 slices.length k1),(3,.int .i64 i1),(9,.slice p1 slices.length k1),(10,.int .i64 (slices.length:Int)),(11,.int .i64 i2)]∧SH w w' []) n ⟨_,_,hF,rfl,h⟩ rfl ?_)
 rintro m1 e1 w1 ⟨i1,i2,hF,rfl,h⟩
 rcases m1 with _|m1
 ·cases hF
 refine X0 5 rfl (qf rfl hF ?_ ?_)<;>intro hF
 ·refine zKSBSR ?_
  obtain ⟨y1,hy1,hF,he1,b1,_,q1,cs2,hp1,hq1,hr1,hc2⟩:=s1.ix hF
  obtain ⟨p2,k2,rfl,s2⟩:=hr1
  refine zxe hp1 hq1 he1 rfl (zc 0 (hc2.below h.below) rfl (X0 15 rfl (qf rfl hF ?_ ?_)))<;>intro hF
  ·refine qe0 ?_
   cases hF
  exact X0 6 rfl (rK ⟨_,_,hF,rfl,h⟩ rfl)
 refine qn rfl ?_
 obtain rfl:=qa hF;replace hF:=hK1
 refine X0 3 rfl ?_
 obtain ⟨r1,hr2,hF⟩:=qi hF
 refine qlJ r1 h (cB 123 rfl) (qeZ hr2) rfl rfl rfl rfl fun w2 S1 p3 k3 h=>?_
 obtain rfl:=qe5 hr2
 refine X0 9 rfl ?_
 replace h:=h.toRowD 0 rfl
 obtain ⟨o2,hF,hK2⟩:=qi hF
 refine qj (rL (fun m e w'=>∃ (S2:Nat→Prop) (p4:Option Addr) (k4:Nat) (x1:(List qb)) (i3:Int),qav slices m x1 i3=some o2∧e=[(6,.slice p4 x1.length k4),(25,.slice p1 slices.length k1),(26,.int .i64 (slices.length:Int)),(27,.int .i64 i3)]∧SH w w' [Ch.rowD w S2 (x1:List qb) p4 k4]) n ⟨_,_,_,_,_,hF,rfl,h⟩ rfl ?_)
 rintro m2 e2 w3 ⟨S2,p4,k4,x1,i3,hF,rfl,h⟩
 rcases m2 with _|m2
 ·cases hF
 refine X0 5 rfl (qf rfl hF ?_ ?_)<;>intro hF
 ·refine zKSBSR ?_
  obtain ⟨y2,hy2,hF,he2,b2,_,q2,cs3,hp2,hq2,hr3,hc5⟩:=s1.ix hF
  obtain ⟨p5,k5,rfl,s3⟩:=hr3
  refine zxe hp2 hq2 he2 rfl (zc 0 (hc5.below h.below) rfl (X0 5 rfl ?_))
  obtain ⟨x2,hx1,hF⟩:=qi hF
  obtain ⟨g1,hx1⟩:=qcb hx1
  exact qoi qk h (s3.mono hg.old) rfl rfl rfl rfl rfl rfl rfl rfl rfl rfl rfl g1 hx1 rfl fun w4 p6 k6 S3 h=>X0 7 rfl (rK ⟨_,_,_,_,_,hF,rfl,h⟩ rfl)
 refine qn rfl ?_
 obtain rfl:=qa hF;replace hF:=hK2
 refine X0 5 rfl ?_
 obtain rfl:=qa hF
 have hv1:GoRs.Rs (ρ:=(List qb)) h.wc (reg (old w) w h.wc) x1 [GoT.v (List qb) [.slice p4 x1.length k4]]:=⟨_,rfl,(hg.outR h (⟨_,_,rfl,(h.rowR 0 rfl)⟩))⟩
 exact qoc qk (ρ:=(List qb)) (r:=x1) [GoT.v (List qb) [.slice p4 x1.length k4]] h ⟨rfl,trivial⟩ hv1
def qR (t:qb):Nat→Int→Option (Flow Bool Int)
 | 0,_=>none
 | n+1,i1 =>
  bif decide (i1<(t.Ab.length:Int)) then
   (idx t.Ab i1).bind fun y1 =>
   (remS i1 (t.Aq.length:Int)).bind fun y2 =>
   bif decide (y2 > 0) then
    (idx t.Ab (W64 (i1-1))).bind fun y3 =>
    bif decide (y1<y3) then some (.ret false) else
    bif decide (i1 ≥ (t.Aq.length:Int)) then
     (idx t.Ab (W64 (i1-(t.Aq.length:Int)))).bind fun y4 =>
     bif decide (y1<y4) then some (.ret false) else
     qR t n (W64 (i1+1))
    else
     qR t n (W64 (i1+1))
   else
    bif decide (i1 ≥ (t.Aq.length:Int)) then
     (idx t.Ab (W64 (i1-(t.Aq.length:Int)))).bind fun y5 =>
     bif decide (y1<y5) then some (.ret false) else
     qR t n (W64 (i1+1))
    else
     qR t n (W64 (i1+1))
  else
   some (.nxt i1)
def qdU (n:Nat) (t:qb):Option Bool :=
 (qec n t).bind fun r1 =>
 bif (!r1) then some false else
 (qR t n 0).bind fun o=>match o with
 | .ret r=>some r
 | .nxt _ =>
  some true
theorem qhO {t:qb} (ha1:GoT.R w (old w) t cs1) {r:Bool} (hF:qdU n t=some r):RetV Tryz.prog 71 [GoT.v qb cs1] w r:=by
 obtain ⟨p1,k1,p2,k2,p3,k3,rfl,s1,s2,s3⟩:=qN ha1
 refine zV 51 Tryz.func71 rfl fun h=>zSR (qy h rfl rfl fun w1 bb1 h=>X1 6 0 h rfl (zcB h hF (qgI (h.old ha1)) rfl fun r1 w2 h hF=>X0 2 rfl (qf rfl hF ?_ ?_)))<;>intro hF
 ·exact X0 4 rfl (rb h hF rfl)
 refine X2 16 0 0 h rfl ?_
 obtain ⟨o1,hF,hK1⟩:=qi hF
 refine qj (rL (fun m e w'=>∃ (i1:Int),qR t m i1=some o1∧e=[(1,.pointer (some ⟨bb1,0,none⟩)),(3,.int .i64 (t.Aq.length:Int)),(13,.slice p3 t.Ab.length k3),(14,.int .i64 (t.Ab.length:Int)),(15,.int .i64 i1)]∧SH w w' [Ch.box bb1 (qfH t p1 p2 p3 k1 k2 k3) 142]) n ⟨_,hF,rfl,h⟩ rfl ?_)
 rintro m1 e1 w3 ⟨i1,hF,rfl,h⟩
 rcases m1 with _|m1
 ·cases hF
 refine X0 5 rfl (qf rfl hF ?_ ?_)<;>intro hF
 ·refine X0 6 rfl ?_
  obtain ⟨y1,hy1,hF,he1,b1,_,q1,cs2,hp1,hq1,rfl,hc3⟩:=s3.ix hF
  refine zxe hp1 hq1 he1 rfl (zc 0 (hc3.below h.below) rfl (X0 7 rfl ?_))
  obtain ⟨y2,hx1,hF⟩:=qi hF
  obtain ⟨g1,hx1⟩:=qj2 hx1
  refine r_v (qnU g1 rfl rfl) rfl ?_
  rw [hx1]
  refine zp2 rfl (qe (t:=24) hF rfl ?_ ?_)<;>intro hF
  ·refine X1 11 0 h rfl ?_
   obtain ⟨y3,hy2,hF,he2,b2,_,q2,cs3,hp2,hq2,rfl,hc4⟩:=s3.ix hF
   refine zxe hp2 hq2 he2 rfl (X0 1 rfl (zc 0 (hc4.below h.below) rfl (X0 4 rfl (qe (t:=34) hF rfl ?_ ?_))))<;>intro hF
   ·refine X0 16 rfl (qcv rfl rfl (X0 4 rfl ?_))
    obtain rfl:=qa hF;replace hF:=hK1
    exact rb h hF rfl
   refine X0 8 rfl (qe (t:=38) hF rfl ?_ ?_)<;>intro hF
   ·refine X1 13 0 h rfl ?_
    obtain ⟨y4,hy3,hF,he3,b3,_,q3,cs4,hp3,hq3,rfl,hc5⟩:=s3.ix hF
    refine zxe hp3 hq3 he3 rfl (X0 1 rfl (zc 0 (hc5.below h.below) rfl (X0 6 rfl (qf rfl hF ?_ ?_))))<;>intro hF
    ·refine X0 4 rfl ?_
     obtain rfl:=qa hF;replace hF:=hK1
     exact rb h hF rfl
    exact X0 6 rfl (rK ⟨_,hF,rfl,h⟩ rfl)
   exact X0 13 rfl (qcS rfl rfl (X0 6 rfl (rK ⟨_,hF,rfl,h⟩ rfl)))
  refine X0 18 rfl (qe (t:=38) hF rfl ?_ ?_)<;>intro hF
  ·refine X1 13 0 h rfl ?_
   obtain ⟨y5,hy4,hF,he4,b4,_,q4,cs5,hp4,hq4,rfl,hc7⟩:=s3.ix hF
   refine zxe hp4 hq4 he4 rfl (X0 1 rfl (zc 0 (hc7.below h.below) rfl (X0 6 rfl (qf rfl hF ?_ ?_))))<;>intro hF
   ·refine X0 4 rfl ?_
    obtain rfl:=qa hF;replace hF:=hK1
    exact rb h hF rfl
   exact X0 6 rfl (rK ⟨_,hF,rfl,h⟩ rfl)
  exact X0 13 rfl (qcS rfl rfl (X0 6 rfl (rK ⟨_,hF,rfl,h⟩ rfl)))
 refine qn rfl ?_
 obtain rfl:=qa hF;replace hF:=hK1
 exact X0 4 rfl (rb h hF rfl)
def qbH (n:Nat) (t:qb):Option Bool :=
 (qdU n t).bind fun r1 =>
 some (!r1)
theorem qfV {t:qb} (ha1:GoT.R w (old w) t cs1) {r:Bool} (hF:qbH n t=some r):RetV Tryz.prog 70 [GoT.v qb cs1] w r:=by
 obtain ⟨p1,k1,p2,k2,p3,k3,rfl,s1,s2,s3⟩:=qN ha1
 exact zV 6 Tryz.func70 rfl fun h=>zSR (qy h rfl rfl fun w1 bb1 h=>X1 5 0 h rfl (zcB h hF (qhO (h.old ha1)) rfl fun r1 w2 h hF=>X0 3 rfl (rb h hF rfl)))
def qp (s:(List qb)):Nat→Int→Option (Flow Int Int)
 | 0,_=>none
 | n+1,i1 =>
  bif decide (i1<(s.length:Int)) then
   (idx s i1).bind fun y1 =>
   (qbH n y1).bind fun r1 =>
   bif r1 then some (.ret i1) else
   qp s n (W64 (i1+1))
  else
   some (.nxt i1)
def qQ (n:Nat) (s:(List qb)):Option Int :=
 (qp s n 0).bind fun o=>match o with
 | .ret r=>some r
 | .nxt _ =>
  some (-1)
theorem qbC {s:(List qb)} (ha1:GoT.R w (old w) s cs1) {r:Int} (hF:qQ n s=some r):RetV Tryz.prog 124 [GoT.v (List qb) cs1,.func (.func 70) #[] #[]] w r:=by
 obtain ⟨p1,k1,rfl,s1⟩:=ha1
 refine zV 19 Tryz.func124 rfl fun h=>X0 11 rfl ?_
 obtain ⟨o1,hF,hK1⟩:=qi hF
 refine qj (rL (fun m e w'=>∃ (i1:Int),qp s m i1=some o1∧e=[(0,.slice p1 s.length k1),(1,.func (.func 70) #[] #[]),(7,.int .i64 (s.length:Int)),(8,.int .i64 i1)]∧SH w w' []) n ⟨_,hF,rfl,h⟩ rfl ?_)
 rintro m1 e1 w1 ⟨i1,hF,rfl,h⟩
 rcases m1 with _|m1
 ·cases hF
 refine X0 5 rfl (qf rfl hF ?_ ?_)<;>intro hF
 ·refine X0 13 rfl ?_
  obtain ⟨y1,hy1,hF,he1,b1,_,q1,cs2,hp1,hq1,hr1,hc2⟩:=s1.ix hF
  obtain ⟨p2,k2,p3,k3,p4,k4,rfl,s2,s3,s4⟩:=qN hr1
  refine zxe hp1 hq1 he1 rfl (zc 0 (hc2.below h.below) rfl (zcB h hF (qfV (qdk y1 (h.oldS s2) (h.oldS s3) (h.oldS s4))) rfl fun r1 w2 h hF=>qdh (qf rfl hF ?_ ?_)))<;>intro hF
  ·refine X0 5 rfl ?_
   obtain rfl:=qa hF;replace hF:=hK1
   exact ri h hF rfl
  exact X0 6 rfl (rK ⟨_,hF,rfl,h⟩ rfl)
 refine qn rfl ?_
 obtain rfl:=qa hF;replace hF:=hK1
 exact X0 4 rfl (ri h hF rfl)
def qB (n:Nat) (s:(List qb)):Option Bool :=
 (qQ n s).bind fun r1 =>
 some (decide (r1 ≥ 0))
theorem qbr {s:(List qb)} (ha1:GoT.R w (old w) s cs1) {r:Bool} (hF:qB n s=some r):RetV Tryz.prog 69 [GoT.v (List qb) cs1,.func (.func 70) #[] #[]] w r:=by
 obtain ⟨p1,k1,rfl,s1⟩:=ha1
 exact zV 9 Tryz.func69 rfl fun h=>X0 8 rfl (zcI h hF (qbC ⟨_,_,rfl,(h.oldS s1)⟩) rfl fun r1 w1 h hF=>X0 3 rfl (rb h hF rfl))
def qai (y1:ql):Nat→Int→Option (Flow Bool Int)
 | 0,_=>none
 | n+1,i2 =>
  bif decide (i2<(y1.Af.length:Int)) then
   (idx y1.Af i2).bind fun y2 =>
   (qbk n ([y2.Au,y2.Bb]:List (List qb))).bind fun r2 =>
   (qeb n y2.Ar).bind fun r3 =>
   bif (!r3) then
    (qB n r2).bind fun r4 =>
    bif r4 then some (.ret false) else
    qai y1 n (W64 (i2+1))
   else
    qai y1 n (W64 (i2+1))
  else
   some (.nxt i2)
def qay (b:qq):Nat→Int→Option (Flow Bool Int)
 | 0,_=>none
 | n+1,i1 =>
  bif decide (i1<(b.As.Ai.length:Int)) then
   (idx b.As.Ai i1).bind fun y1 =>
   (qai y1 n 0).bind fun o=>match o with
   | .ret r=>some (.ret r)
   | .nxt _ =>
    qay b n (W64 (i1+1))
  else
   some (.nxt i1)
def qbt (n:Nat) (b:qq):Option Bool :=
 (qfh n b).bind fun r1 =>
 bif (!r1) then some false else
 (qay b n 0).bind fun o=>match o with
 | .ret r=>some r
 | .nxt _ =>
  some true
theorem qgj {b:qq} (ha1:GoT.R w (old w) b cs1) {r:Bool} (hF:qbt n b=some r):RetV Tryz.prog 29 [GoT.v qq cs1] w r:=by
 obtain ⟨p1,k1,p2,k2,p3,k3,p4,k4,p5,k5,rfl,s1,s2,s3,s4,s5⟩:=qa7 ha1
 refine zV 42 Tryz.func29 rfl fun h=>zSR (qy h rfl rfl fun w1 bb1 h=>X1 6 0 h rfl (zcB h hF (qiA (h.old ha1)) rfl fun r1 w2 h hF=>X0 2 rfl (qf rfl hF ?_ ?_)))<;>intro hF
 ·exact X0 4 rfl (rb h hF rfl)
 refine X1 10 0 h rfl ?_
 obtain ⟨o1,hF,hK1⟩:=qi hF
 refine qj ?_
 replace h:=h.pick [] rfl
 refine rL (fun m e w'=>∃ (i1:Int),qay b m i1=some o1∧e=[(13,.slice p1 b.As.Ai.length k1),(14,.int .i64 (b.As.Ai.length:Int)),(15,.int .i64 i1)]∧SH w w' []) n ⟨_,hF,rfl,h⟩ rfl ?_
 rintro m1 e1 w3 ⟨i1,hF,rfl,h⟩
 rcases m1 with _|m1
 ·cases hF
 refine X0 5 rfl (qf rfl hF ?_ ?_)<;>intro hF
 ·refine zKSBSR ?_
  obtain ⟨y1,hy1,hF,he1,b1,_,q1,cs2,hp1,hq1,hr2,hc3⟩:=s1.ix hF
  obtain ⟨p6,k6,p7,k7,p8,k8,rfl,s6,s7,s8⟩:=qD hr2
  refine zxe hp1 hq1 he1 rfl (zc 0 (hc3.below h.below) rfl (qJ qk h rfl rfl rfl fun w4 bb2 h=>zs 0 h rfl fun w5 h=>X1 8 0 h rfl ?_))
  obtain ⟨o2,hF,hK2⟩:=qi hF
  refine qj ?_
  replace h:=h.pick [] rfl
  refine rL (fun m e w'=>∃ (i2:Int),qai y1 m i2=some o2∧e=[(13,.slice p1 b.As.Ai.length k1),(14,.int .i64 (b.As.Ai.length:Int)),(15,.int .i64 i1),(20,.slice p7 y1.Af.length k7),(21,.int .i64 (y1.Af.length:Int)),(22,.int .i64 i2)]∧SH w w' []) m1 ⟨_,hF,rfl,h⟩ rfl ?_
  rintro m2 e2 w6 ⟨i2,hF,rfl,h⟩
  rcases m2 with _|m2
  ·cases hF
  refine X0 5 rfl (qf rfl hF ?_ ?_)<;>intro hF
  ·refine zKSBSR ?_
   obtain ⟨y2,hy2,hF,he2,b2,_,q2,cs3,hp2,hq2,hr3,hc5⟩:=s7.ix hF
   obtain ⟨p9,k9,p10,k10,rfl,s9,s10⟩:=qK hr3
   refine zxe hp2 hq2 he2 rfl (zc 0 (hc5.below h.below) rfl (qJ qk h rfl rfl rfl fun w7 bb3 h=>zs 0 h rfl fun w8 h=>X2 7 0 0 h rfl (qmj qk [.tmp 27,.tmp 29] _ ([y2.Au,y2.Bb]:List (List qb)) h rfl rfl rfl rfl rfl rfl rfl rfl rfl ⟨⟨_,_,rfl,s9⟩,⟨_,_,rfl,s10⟩,trivial⟩ rfl fun w9 p11 S1 h=>?_)))
   have hg1:Rg (old w) w (old w) w:=.start (fun _ h=>h)
   obtain ⟨r2,hr4,hF⟩:=qi hF
   refine qnu r2 hg1 h (cB 67 rfl) ((qfr ⟨_,_,rfl,(h.rowS 0 rfl)⟩ hr4).up h.oldreg) rfl rfl rfl rfl fun w10 us1 B1 hg2 hu1 hz1 hv1=>?_
   have hL1:=h.ext hu1.below
   have s11:=Up.S hg1 h hu1 s1
   have s12:=Up.S hg1 h hu1 s7
   have hc6:=Up.box 1 h hu1 rfl
   have s13:=Up.S hg1 h hu1 s9
   have s14:=Up.S hg1 h hu1 s10
   have ha2:=Up.boxP (x:=y2) hg1 1 h hu1 rfl (qdS y2 (hg1.inS h s9) (hg1.inS h s10))
   have hb1:=h.below.trans (hu1.below.mono h.below.size)
   replace h:=hz1
   obtain ⟨cs4,rfl,hr5⟩:=qoe hv1
   obtain ⟨p12,k11,rfl,s15⟩:=hr5
   refine X0 5 rfl (zc 0 (hc6.below h.below) rfl (zcB h hF qgJ rfl fun r3 w11 h hF=>zp2 rfl (qe (t:=36) hF rfl ?_ ?_)))<;>intro hF
   ·refine X0 3 rfl (zcB h hF (qbr ⟨_,_,rfl,(h.oldS (s15.mono hg2.old))⟩) rfl fun r4 w12 h hF=>X0 2 rfl (qf rfl hF ?_ ?_))<;>intro hF
    ·refine X0 4 rfl ?_
     replace h:=h.unbase hg2.below (show NoD [] from trivial)
     obtain rfl:=qa hF;replace hF:=hK2
     obtain rfl:=qa hF;replace hF:=hK1
     exact rb h hF rfl
    refine X0 6 rfl ?_
    replace h:=h.unbase hb1 (show NoD [] from trivial)
    exact rK ⟨_,hF,rfl,h⟩ rfl
   refine X0 4 rfl (qcS rfl rfl (X0 6 rfl ?_))
   replace h:=h.unbase hb1 (show NoD [] from trivial)
   exact rK ⟨_,hF,rfl,h⟩ rfl
  refine qn rfl ?_
  obtain rfl:=qa hF;replace hF:=hK2
  exact X0 5 rfl (rK ⟨_,hF,rfl,h⟩ rfl)
 refine qn rfl ?_
 obtain rfl:=qa hF;replace hF:=hK1
 exact X0 4 rfl (rb h hF rfl)
end Go.Fw


namespace Go.Fw
open Go
set_option maxRecDepth 100000
structure AxOk (ax:List Int):Prop where
 lo:1≤ax.length
 hi:ax.length≤4
 at_:∀ j,j<ax.length→0≤at0 ax j∧at0 ax j≤100000
 inc:∀ j i,i<j→j<ax.length→at0 ax i<at0 ax j
structure Wt (ax:List Int) (i:Nat) (a b:Int):Prop where
 il:i<ax.length
 a0:0<a
 a1:a≤100000
 b0:0≤b
 b1:b≤100000
 nx:0<b→i+1<ax.length
 one:b=0→a=1
end Go.Fw


namespace Go.Fw
open Go
set_option maxRecDepth 100000
structure TbOk (t:qb):Prop where
 s:AxOk t.Ay
 l:AxOk t.Aq
 n:t.Ab.length=t.Ay.length*t.Aq.length
 v:∀ k,-1000000≤at0 t.Ab k∧at0 t.Ab k≤1000000
def tv (t:qb) (i j:Nat):Int:=at0 t.Ab (i*t.Aq.length+j)
def rowS (t:qb) (j:Nat) (a2 b2:Int) (i:Nat):Int:=a2*tv t i j+b2*tv t i (j+1)
end Go.Fw


namespace Go.Fw
open Go
set_option maxRecDepth 100000
end Go.Fw


namespace Go.Fw
open Go
set_option maxRecDepth 100000
instance:Inhabited qcU:=⟨⟨0,⟨0,0⟩,⟨0,0⟩⟩⟩
instance:Inhabited qaN:=⟨⟨0,0⟩⟩
def cornerB (c:qdV):Bool:=(inI c.Bl 100 5000&&(inI c.Bp 100 5000&&(inI c.Bn 100 5000&&inI c.Bq 100 5000)))&&(nameB c.Ap&&(decide (c.Bl≤c.Bp)&&decide (c.Bn≤c.Bq)))
def spanB (s:qaN):Bool:=inI s.Bk (-1000000000) 1000000000&&(inI s.Br (-1000000000) 1000000000&&decide (s.Bk≤s.Br))
def slewB (s:qaN):Bool:=decide (s.Bk ≥ 0)&&(decide (s.Bk≤s.Br)&&decide (s.Br≤1000000))
end Go.Fw


namespace Go.Fw
open Go
set_option maxRecDepth 100000
def lvB (br:List Int) (m:Nat):List Bool:=pre (fun k=>!br.any fun y=>y==(k:Int)) m
def brB (br:List Int) (m:Nat):Bool:=(br.all fun x=>inI x 0 ((m:Int)-1))&&incB br
end Go.Fw


namespace Go.Fw
open Go
set_option maxRecDepth 100000
structure CLk (b:qq) (x:qdR) (i j m net a:Nat):Prop where
 kind:x.Ar=1
 il:i<b.Ak.Aa.length
 jl:j<(places b.Ak).length
 inst:(gt (places b.Ak) j).instance_=(i:Int)
 net_:(gt (places b.Ak) j).net=(net:Int)
 nl:net<b.At.length
 half:W64 (x.To.tdiv 2)=(j:Int)
 mod:x.To.tmod 2=(m:Int)
 ml:m<2
 ix:x.Bu=(a:Int)
 al:a<(cellAt b (i:Int)).Af.length
 d2:(gt (cellAt b (i:Int)).Af a).Au.length=2
 s2:(gt (cellAt b (i:Int)).Af a).Bb.length=2
 dt:∀ t,t ∈ (gt (cellAt b (i:Int)).Af a).Au→TbOk t∧∀ k,0≤at0 t.Ab k
 st:∀ t,t ∈ (gt (cellAt b (i:Int)).Af a).Bb→TbOk t∧∀ k,0≤at0 t.Ab k
structure WLk (b:qq) (x:qdR) (j net k:Nat):Prop where
 kind:x.Ar=2
 jl:j<(places b.Ak).length
 net_:(gt (places b.Ak) j).net=(net:Int)
 nl:net<b.At.length
 half:W64 (x.To.tdiv 2)=(j:Int)
 ix:x.Bu=(k:Int)
 kl:k<(gt b.At net).Bd.length
end Go.Fw


namespace Go.Fw
open Go
set_option maxRecDepth 100000
def slR (s:qaN):Prop:=(0≤s.Bk∧s.Bk≤1000000)∧(0≤s.Br∧s.Br≤1000000)
structure TmOk (t:qfZ) (M:Nat):Prop where
 r:t.Bt.length=M
 a:t.Bm.length=M
 s:t.Bb.length=M
 sl:∀ k,k<M→slR (gt t.Bb k)
structure SrcOk (xs:List qcU):Prop where
 len:xs.length≤1048576
 inc:∀ j i,i<j→j<xs.length→(gt xs i).Bs<(gt xs j).Bs
 sl:∀ x,x ∈ xs→slR x.Bb
section
variable {b:qq} {c:qdV} {ex:List Int} {f:Nat→qaN→qaN × qaN} {lv:List Bool} {t:qfZ} {xs:List qcU} {node:Int}
end
end Go.Fw


namespace Go.Fw
open Go
set_option maxRecDepth 100000
def stepN (xs:List qcU) (j:Nat):Bool:=decide (j=0) || decide ((gt xs (j-1)).Bs<(gt xs j).Bs)
def srcB (xs:List qcU) (M:Nat):Bool:=allN (fun j=>inI (gt xs j).Bs 0 ((M:Int)-1)&&(stepN xs j&&(spanB (gt xs j).Bm&&slewB (gt xs j).Bb))) xs.length
section
variable {L:Nat} {fr to:Nat→Int} {lv:Nat→Bool} {n:Nat}
def OrdOk (L:Nat) (fr to:Nat→Int) (lv:Nat→Bool) (n:Nat) (R:List Nat):Prop:=∀ l1 k l2,R=l1++k::l2→k<n∧k ∉ l1∧inN L fr to lv l1 k=0
theorem OrdOk.snoc {R:List Nat} {k:Nat} (h:OrdOk L fr to lv n R) (hk:nxtN L fr to lv n R=some k):OrdOk L fr to lv n (R++[k]):=by
 intro l1 k' l2 e
 rcases List.eq_nil_or_concat l2 with rfl|⟨l2',z,rfl⟩
 ·obtain ⟨rfl,e2⟩:=List.append_inj' e rfl
  obtain rfl:k=k':=by simpa using e2
  exact qlX hk
 ·have e':R++[k]=(l1++k'::l2')++[z]:=by rw [e];simp
  obtain ⟨e1,_⟩:=List.append_inj' e' rfl
  exact h l1 k' l2' e1
theorem OrdOk.at {R:List Nat} (h:OrdOk L fr to lv n R) {j:Nat} (hj:j<R.length):R[j]<n∧R[j] ∉ R.take j∧inN L fr to lv (R.take j) R[j]=0:=by
 refine h (R.take j) R[j] (R.drop (j+1)) ?_
 rw [←List.drop_eq_getElem_cons hj,List.take_append_drop]
end
section
variable {b:qq} {c:qdV} {ex:List Int} {f g:Nat→qaN→qaN × qaN} {lv:List Bool} {t:qfZ} {xs:List qcU} {node:Int}
end
end Go.Fw


namespace Go.Fw
open Go
structure qnW (x:qd7):Prop where
 A:okI x.A
 B:okI x.B
 Bv:okI x.Bv
structure qiS (x:qaN):Prop where
 Bk:okI x.Bk
 Br:okI x.Br
structure qoy (x:qcU):Prop where
 Bs:okI x.Bs
 Bm:qiS x.Bm
 Bb:qiS x.Bb
structure qow (x:qfZ):Prop where
 Bt:(okL okT) x.Bt
 Bm:(okL qiS) x.Bm
 Bb:(okL qiS) x.Bb
structure qox (x:qdV):Prop where
 Ap:okS x.Ap
 Bl:okI x.Bl
 Bp:okI x.Bp
 Bn:okI x.Bn
 Bq:okI x.Bq
end Go.Fw


namespace Go.Fw
open Go
set_option maxRecDepth 100000
abbrev lkB (b:qq):Nat:=(linksL b).length
abbrev ndB (b:qq):Nat:=2*(places b.Ak).length
abbrev lvJ (b:qq) (br:List Int):List Bool:=lvB br (lkB b)
structure TgOk (b:qq) (c:qdV) (br:List Int) (xs:List qcU) (R:List Nat):Prop where
 bl:blockB b=true
 co:cornerB c=true
 br_:brB br (lkB b)=true
 sr:srcB xs (ndB b)=true
 or_:ordL (linksL b) (lvJ b br) (ndB b) (ndB b) []=some R
theorem TgOk.len {b:qq} {c:qdV} {br:List Int} {xs:List qcU} {R:List Nat} (h:TgOk b c br xs R):R.length=ndB b:=by
 have:=qmX (ndB b) [] R h.or_
 simpa using this
end Go.Fw


namespace Go.Fw
open Go
set_option maxRecDepth 100000
section
variable {b:qq} {c:qdV} {ex:List Int} {f:Nat→qaN→qaN × qaN} {lv:List Bool} {t:qfZ} {xs:List qcU} {node:Int}
end
end Go.Fw


namespace Go.Fw
open Go
set_option maxRecDepth 100000
instance:Inhabited qd7:=⟨⟨0,0,0⟩⟩
end Go.Fw


namespace Go.Fw
open Go
set_option maxRecDepth 100000
section
variable {b:qq} {t:qfZ} {net:Int}
end
section
variable {b:qq} {t:qfZ} {ks:List qd7}
end
section
variable {b:qq} {ks:List qd7} {used:List Int}
end
end Go.Fw


namespace Go.Fw
open Go
set_option maxRecDepth 100000
section
variable {b:qq} {c:qdV} {br:List Int} {xs:List qcU} {ex:List Int}
end
end Go.Fw


namespace Go.Fw
open Go
set_option maxRecDepth 100000
theorem sub00 {α:Type} (xs:List α):subS xs 0 ((0:Nat):Int)=some []:=by
 unfold subS
 rw [if_pos (by omega)]
 simp
section
variable {b:qq} {c:qdV} {br:List Int} {xs:List qcU} {ks:List qd7} {R:List Nat}
end
end Go.Fw


namespace Go.Fw
open Go
set_option maxRecDepth 100000
def monS (m:Nat) (v:List Int) (i:Nat):Bool:=(decide (i % m=0) || decide (at0 v (i-1)≤at0 v i))&&(decide (i<m) || decide (at0 v (i-m)≤at0 v i))
def monB (t:qb):Bool:=tableB t&&allN (monS t.Aq.length t.Ab) t.Ab.length
theorem qkT {i m:Nat} (h:0<m):remS (i:Int) (m:Int)=some ((i % m:Nat):Int):=by
 unfold remS
 rw [if_neg (by omega),Int.ofNat_tmod]
theorem qh5 {t:qb} (h:tableB t=true):0<t.Aq.length:=by
 unfold tableB axisB lenB at h
 simp only [jg,decide_eq_true_eq] at h
 exact h.2.1.1.1
theorem qjg {t:qb} (h:qcD t):Ev (fun n=>qdY n t) (monB t):=by
 have hl:=h.Ab.len
 have hll:=h.Aq.len
 unfold qdY monB
 refine Ev.bind (qiu h) ?_
 cases ht:tableB t
 ·exact Ev.tt rfl .done
 have hm:=qh5 ht
 have hL:Ev (fun n=>qO t n 0) (bif allN (monS t.Aq.length t.Ab) t.Ab.length then .nxt (t.Ab.length:Int) else .ret false):=by
  refine qco (Ev.succ (by simp only [qO,qg (je _),cond_false];exact .done)) (fun j hj X hX=>Ev.succ ?_)
  have e0:idx t.Ab (j:Int)=some (at0 t.Ab j):=qbi hj
  have e1:1≤j→idx t.Ab (W64 ((j:Int)-1))=some (at0 t.Ab (j-1)):=fun h1=>by
   rw [qcL (by omega) (by omega),show (j:Int)-1=((j-1:Nat):Int) by omega];exact qbi (by omega)
  have e2:t.Aq.length≤j→idx t.Ab (W64 ((j:Int)-(t.Aq.length:Int)))=some (at0 t.Ab (j-t.Aq.length)):=fun h1=>by
   rw [qcL (by omega) (by omega),show (j:Int)-(t.Aq.length:Int)=((j-t.Aq.length:Nat):Int) by omega];exact qbi (by omega)
  simp only [qO,qh hj,cond_true,qkT hm,jd,e0,wS j]
  have tl:Ev (fun n=>bif decide ((j:Int) ≥ (t.Aq.length:Int)) then (idx t.Ab (W64 ((j:Int)-(t.Aq.length:Int)))).bind fun y4=>bif decide (y4 > at0 t.Ab j) then some (.ret false) else qO t n ((j+1:Nat):Int) else qO t n ((j+1:Nat):Int))
    (bif (decide (j<t.Aq.length) || decide (at0 t.Ab (j-t.Aq.length)≤at0 t.Ab j)) then X else .ret false):=by
   by_cases hjm:j<t.Aq.length
   ·rw [decide_eq_true hjm]
    exact Ev.ff (by simp;omega) hX
   ·refine Ev.tt (by simp;omega) (Ev.bindN (e2 (by omega)) ?_)
    rw [decide_eq_false hjm]
    by_cases hc:at0 t.Ab (j-t.Aq.length)≤at0 t.Ab j
    ·rw [decide_eq_true hc];exact Ev.ff (by simp;omega) hX
    ·rw [decide_eq_false hc];exact Ev.tt (by simp;omega) .done
  unfold monS
  by_cases h1:j % t.Aq.length=0
  ·rw [decide_eq_true h1]
   exact Ev.ff (by rw [h1];rfl) tl
  ·rw [decide_eq_false h1]
   have hj1:1≤j:=by
    rcases Nat.eq_zero_or_pos j with rfl|h2
    ·simp at h1
    ·exact h2
   refine Ev.tt (by simp;omega) (Ev.bindN (e1 hj1) ?_)
   by_cases hc:at0 t.Ab (j-1)≤at0 t.Ab j
   ·rw [decide_eq_true hc];exact Ev.ff (by simp;omega) tl
   ·rw [decide_eq_false hc];exact Ev.tt (by simp;omega) .done
 refine Ev.ff rfl (Ev.bind hL ?_)
 cases allN (monS t.Aq.length t.Ab) t.Ab.length<;>exact .done
theorem qjJ {t:qb} (h:qcD t):Ev (fun n=>qdU n t) (monB t):=by
 have hl:=h.Ab.len
 have hll:=h.Aq.len
 unfold qdU monB
 refine Ev.bind (qjj h) ?_
 cases ht:tableB t
 ·exact Ev.tt rfl .done
 have hm:=qh5 ht
 have hL:Ev (fun n=>qR t n 0) (bif allN (monS t.Aq.length t.Ab) t.Ab.length then .nxt (t.Ab.length:Int) else .ret false):=by
  refine qco (Ev.succ (by simp only [qR,qg (je _),cond_false];exact .done)) (fun j hj X hX=>Ev.succ ?_)
  have e0:idx t.Ab (j:Int)=some (at0 t.Ab j):=qbi hj
  have e1:1≤j→idx t.Ab (W64 ((j:Int)-1))=some (at0 t.Ab (j-1)):=fun h1=>by
   rw [qcL (by omega) (by omega),show (j:Int)-1=((j-1:Nat):Int) by omega];exact qbi (by omega)
  have e2:t.Aq.length≤j→idx t.Ab (W64 ((j:Int)-(t.Aq.length:Int)))=some (at0 t.Ab (j-t.Aq.length)):=fun h1=>by
   rw [qcL (by omega) (by omega),show (j:Int)-(t.Aq.length:Int)=((j-t.Aq.length:Nat):Int) by omega];exact qbi (by omega)
  simp only [qR,qh hj,cond_true,qkT hm,jd,e0,wS j]
  have tl:Ev (fun n=>bif decide ((j:Int) ≥ (t.Aq.length:Int)) then (idx t.Ab (W64 ((j:Int)-(t.Aq.length:Int)))).bind fun y4=>bif decide (at0 t.Ab j<y4) then some (.ret false) else qR t n ((j+1:Nat):Int) else qR t n ((j+1:Nat):Int))
    (bif (decide (j<t.Aq.length) || decide (at0 t.Ab (j-t.Aq.length)≤at0 t.Ab j)) then X else .ret false):=by
   by_cases hjm:j<t.Aq.length
   ·rw [decide_eq_true hjm]
    exact Ev.ff (by simp;omega) hX
   ·refine Ev.tt (by simp;omega) (Ev.bindN (e2 (by omega)) ?_)
    rw [decide_eq_false hjm]
    by_cases hc:at0 t.Ab (j-t.Aq.length)≤at0 t.Ab j
    ·rw [decide_eq_true hc];exact Ev.ff (by simp;omega) hX
    ·rw [decide_eq_false hc];exact Ev.tt (by simp;omega) .done
  unfold monS
  by_cases h1:j % t.Aq.length=0
  ·rw [decide_eq_true h1]
   exact Ev.ff (by rw [h1];rfl) tl
  ·rw [decide_eq_false h1]
   have hj1:1≤j:=by
    rcases Nat.eq_zero_or_pos j with rfl|h2
    ·simp at h1
    ·exact h2
   refine Ev.tt (by simp;omega) (Ev.bindN (e1 hj1) ?_)
   by_cases hc:at0 t.Ab (j-1)≤at0 t.Ab j
   ·rw [decide_eq_true hc];exact Ev.ff (by simp;omega) tl
   ·rw [decide_eq_false hc];exact Ev.tt (by simp;omega) .done
 refine Ev.ff rfl (Ev.bind hL ?_)
 cases allN (monS t.Aq.length t.Ab) t.Ab.length<;>exact .done
def monsB (ts:List qb):Bool:=ts.all monB
theorem qgN {ts:List qb} (h:okL qcD ts):Ev (fun n=>qcK n ts) (monsB ts):=by
 have hl:=h.len
 have hL:Ev (fun n=>qa3 ts n 0) (bif ts.all monB then .nxt (ts.length:Int) else .ret false) :=
  qek (fun n=>by simp only [qa3,qg (je _),cond_false]) (fun j hj X hX=>by
   simp only [qa3,qh hj,cond_true,qd3 hj,jd,wS j]
   refine Ev.bind (qjg (h.2 _ (jn hj))) ?_
   cases monB ts[j]
   ·exact Ev.tt rfl .done
   ·exact Ev.ff rfl hX)
 unfold qcK monsB
 refine Ev.bind hL ?_
 cases ts.all monB<;>exact .done
theorem qn9 {ts:List qb} (hl:ts.length≤2097152) (h:∀ t,t ∈ ts→qcD t):Ev (fun n=>qB n ts) (!monsB ts):=by
 unfold qB
 refine Ev.bind (b:=ixL (fun t=>!monB t) ts) (qev (fin:=(ts.length:Int)) (Lf:=qp ts) (pf:=qbH) (fun x hx=>?_)
  (fun n=>by simp only [qp,qg (je _),cond_false])
  (fun n j x hx=>by
   have hj:=(List.getElem?_eq_some_iff.1 hx).1
   simp only [qp,qh hj,cond_true,qV hx,jd,wS j])
  (fun n=>by unfold qQ;congr 1;funext o;cases o<;>rfl)) (Ev.now ?_)
 ·unfold qbH
  exact Ev.bind (qjJ (h _ hx)) .done
 ·rw [qgS]
  unfold monsB
  rw [←qhS,Bool.not_not]
theorem qmE {k:Int} (h0:0≤k) (h1:k≤2097152):Ev (fun n=>qP n k) []:=by
 unfold qP
 have e:W64 (k-W64 (0-((0:Nat):Int)))=k:=by
  have e1:W64 (0-((0:Nat):Int))=0:=rfl
  rw [e1,Int.sub_zero];exact qcL (by omega) (by omega)
 refine Ev.bind (b:=()) (Ev.ff (by simp;omega) .done) ?_
 rw [e]
 refine Ev.bif (fun hk=>?_) (fun _=>.done)
 have h2:mkS k (⟨[],[],[]⟩:qb)=some (List.replicate k.toNat ⟨[],[],[]⟩):=by unfold mkS;rw [if_pos ⟨h0,by unfold big;omega⟩]
 exact Ev.bindN h2 (Ev.bindN (sub00 _) .done)
theorem qla {a d:List qb} (h1:a.length≤1048576) (h2:d.length≤1048576):Ev (fun n=>qbk n [a,d]) (a++d):=by
 have h1:Ev (fun n=>qau [a,d] n 0 0) (((a.length+d.length:Nat):Int),2):=by
  have ea:W64 (0+(a.length:Int))=(a.length:Int):=by rw [Int.zero_add];exact qcL (by omega) (by omega)
  have ed:W64 ((a.length:Int)+(d.length:Int))=((a.length+d.length:Nat):Int):=by rw [qcL (by omega) (by omega)];omega
  refine Ev.succ (Ev.succ (Ev.succ ?_))
  simp only [qau]
  refine Ev.tt rfl (Ev.bindN (b:=a) rfl ?_)
  rw [ea]
  refine Ev.ff (by simp) (Ev.tt rfl (Ev.bindN (b:=d) rfl ?_))
  rw [ed]
  exact Ev.ff (by simp;omega) (Ev.ff rfl .done)
 have h2:Ev (fun n=>qav [a,d] n [] 0) (a++d,2):=by
  refine Ev.succ (Ev.succ (Ev.succ ?_))
  simp only [qav]
  refine Ev.tt rfl (Ev.bindN (b:=a) rfl (Ev.bindN (b:=a) ?_ (Ev.tt rfl (Ev.bindN (b:=d) rfl (Ev.bindN (b:=a++d) ?_ (Ev.ff rfl .done))))))
  ·have:=qf9 (xs:=([]:List qb)) (ys:=a) (by simp;omega)
   rwa [List.nil_append] at this
  ·exact qf9 (by omega)
 unfold qbk
 exact Ev.bind h1 (Ev.bind (qmE (by omega) (by omega)) (Ev.bind h2 .done))
def marcB (a:qE):Bool:=!decide (a.Ar≤3) || (monsB a.Au&&monsB a.Bb)
def mblockB (b:qq):Bool:=blockB b&&b.As.Ai.all fun c=>c.Af.all marcB
theorem qmH {c:ql} (h:okL qgD c.Af):Ev (fun n=>qag c n 0) (bif c.Af.all marcB then .nxt (c.Af.length:Int) else .ret false):=by
 have hl:=h.len
 refine qek (fun n=>by simp only [qag,qg (je _),cond_false]) (fun j hj X hX=>?_)
 simp only [qag,qh hj,cond_true,qd3 hj,jd,wS j]
 have ha:=h.2 _ (jn hj)
 unfold marcB
 cases decide (c.Af[j].Ar≤3)
 ·exact Ev.ff rfl hX
 ·refine Ev.tt rfl (Ev.bind (qgN ha.Au) ?_)
  cases monsB c.Af[j].Au
  ·exact Ev.tt rfl .done
  ·refine Ev.ff rfl (Ev.bind (qgN ha.Bb) ?_)
   cases monsB c.Af[j].Bb
   ·exact Ev.tt rfl .done
   ·exact Ev.ff rfl hX
theorem qmx {c:ql} (hc:cellB c=true) (h:okL qgD c.Af):Ev (fun n=>qai c n 0) (bif c.Af.all marcB then .nxt (c.Af.length:Int) else .ret false):=by
 have hl:=h.len
 refine qek (fun n=>by simp only [qai,qg (je _),cond_false]) (fun j hj X hX=>?_)
 simp only [qai,qh hj,cond_true,qd3 hj,jd,qjt,wS j]
 have ha:=h.2 _ (jn hj)
 have hk:=(qkD hc hj).1
 rw [qhx hj] at hk
 have e:decide (c.Af[j].Ar≤3) = !((c.Af[j].Ar==4) || (c.Af[j].Ar==5)):=by
  rw [ji];simp;omega
 refine Ev.bind (qla ha.Au.len ha.Bb.len) ?_
 unfold marcB
 rw [e]
 cases ((c.Af[j].Ar==4) || (c.Af[j].Ar==5))
 ·refine Ev.tt rfl (Ev.bind (qn9 (by have h1:=ha.Au.len;have h2:=ha.Bb.len;rw [jm];omega) (fun t ht=>?_)) ?_)
  ·rcases List.mem_append.1 ht with ht|ht
   ·exact ha.Au.2 _ ht
   ·exact ha.Bb.2 _ ht
  ·have e2:monsB (c.Af[j].Au++c.Af[j].Bb)=(monsB c.Af[j].Au&&monsB c.Af[j].Bb):=by unfold monsB;rw [List.all_append]
   rw [e2]
   cases (monsB c.Af[j].Au&&monsB c.Af[j].Bb)
   ·exact Ev.tt rfl .done
   ·exact Ev.ff rfl hX
 ·exact Ev.ff rfl hX
theorem qhq {b:qq} (hb:qgm b):Ev (fun n=>qbn n b) (mblockB b):=by
 have hl:=hb.As.Ai.len
 have hL:Ev (fun n=>qaz b n 0) (bif b.As.Ai.all (fun c=>c.Af.all marcB) then .nxt (b.As.Ai.length:Int) else .ret false):=by
  refine qek (fun n=>by simp only [qaz,qg (je _),cond_false]) (fun j hj X hX=>?_)
  simp only [qaz,qh hj,cond_true,qd3 hj,jd,wS j]
  refine Ev.bind (qmH (hb.As.Ai.2 _ (jn hj)).Af) ?_
  cases b.As.Ai[j].Af.all marcB
  ·exact .done
  ·exact hX
 unfold qbn mblockB
 refine Ev.bind (qkX hb) ?_
 cases blockB b
 ·exact Ev.tt rfl .done
 ·refine Ev.ff rfl (Ev.bind hL ?_)
  cases b.As.Ai.all (fun c=>c.Af.all marcB)<;>exact .done
theorem qkt {b:qq} (h:blockB b=true) {c:ql} (hc:c ∈ b.As.Ai):cellB c=true:=by
 have:=qlh h
 unfold designB libB at this
 simp only [jg] at this
 exact List.all_eq_true.1 this.1.1.1 c hc
theorem qhw {b:qq} (hb:qgm b):Ev (fun n=>qbt n b) (mblockB b):=by
 have hl:=hb.As.Ai.len
 unfold qbt mblockB
 refine Ev.bind (qlb hb) ?_
 cases h:blockB b
 ·exact Ev.tt rfl .done
 have hL:Ev (fun n=>qay b n 0) (bif b.As.Ai.all (fun c=>c.Af.all marcB) then .nxt (b.As.Ai.length:Int) else .ret false):=by
  refine qek (fun n=>by simp only [qay,qg (je _),cond_false]) (fun j hj X hX=>?_)
  simp only [qay,qh hj,cond_true,qd3 hj,jd,wS j]
  refine Ev.bind (qmx (qkt h (jn hj)) (hb.As.Ai.2 _ (jn hj)).Af) ?_
  cases b.As.Ai[j].Af.all marcB
  ·exact .done
  ·exact hX
 refine Ev.ff rfl (Ev.bind hL ?_)
 cases b.As.Ai.all (fun c=>c.Af.all marcB)<;>exact .done
theorem qhF {b:qq} (hb:qgm b):∃ R:Bool,Ev (fun n=>qbn n b) R∧Ev (fun n=>qbt n b) R:=⟨_,qhq hb,qhw hb⟩
end Go.Fw


namespace Go.Fw
open Go Go.Proofs
open Go.RowKit (Below)
set_option maxRecDepth 100000
set_option maxHeartbeats 1600000
variable {n:Nat} {w:World} {cs1 cs2 cs3 cs4 cs5 cs6 cs7 cs8 cs9:List Value}
end Go.Fw


namespace Go.Fw
open Go Go.Proofs
open Go.RowKit (Below)
set_option maxRecDepth 100000
set_option maxHeartbeats 6400000
variable {n:Nat} {w:World} {cs1 cs2 cs3 cs4 cs5 cs6 cs7 cs8 cs9:List Value}
def qbM (n:Nat) (aB:qq):Option Bool :=
 (qfc n aB 1048576).bind fun r1 =>
 bif decide (r1<0) then some true else
 (qdx n aB).bind fun r2 =>
 (qbn n r2).bind fun r3 =>
 (qdx n aB).bind fun r4 =>
 (qbt n r4).bind fun r5 =>
 bif (!(r5==r3)) then some false else
 (qdx n aB).bind fun r6 =>
 (qfd n r4 r6).bind fun r7 =>
 bif (!r7) then some false else
 some true
theorem qeA {aB:qq} (ha1:GoT.R w (old w) aB cs1) {r:Bool} (hF:qbM n aB=some r):RetV Tryz.prog 4 [GoT.v qq cs1] w r:=by
 obtain ⟨p1,k1,p2,k2,p3,k3,p4,k4,p5,k5,rfl,s1,s2,s3,s4,s5⟩:=qa7 ha1
 refine zV 27 Tryz.func4 rfl fun h=>zSR (qy h rfl rfl fun w1 bb1 h=>X1 10 0 h rfl (zcI h hF (qiF (h.old ha1)) rfl fun r1 w2 h hF=>X0 8 rfl (qf rfl hF ?_ ?_)))<;>intro hF
 ·exact X0 4 rfl (rb h hF rfl)
 refine X1 4 0 h rfl (zcO h hF (qe7 (h.old ha1)) rfl fun r2 w3 S1 cs2 h hF=>?_)
 obtain ⟨p6,k6,p7,k7,p8,k8,p9,k9,p10,k10,rfl,-,-,-,-,-⟩:=qa7 (h.own 0 rfl)
 refine zcB h hF (qge (h.own 0 rfl)) rfl fun r3 w4 h hF=>X1 5 1 h rfl (zcO h hF (qe7 (h.old ha1)) rfl fun r4 w5 S2 cs3 h hF=>?_)
 obtain ⟨p11,k11,p12,k12,p13,k13,p14,k14,p15,k15,rfl,-,-,-,-,-⟩:=qa7 (h.own 0 rfl)
 refine qJ qk h rfl rfl rfl fun w6 bb2 h=>zs 0 h rfl fun w7 h=>X1 4 0 h rfl (zcB h hF (qgj (h.own 1 rfl)) rfl fun r5 w8 h hF=>X0 9 rfl (qf rfl hF ?_ ?_))<;>intro hF
 ·exact X0 4 rfl (rb h hF rfl)
 refine zKSS (rA [] [0,3] h rfl fun w9 h=>M2 3 [0,1] 0 1 (h.pick [0,3] rfl) rfl (Ao 2 7 rfl (zcO h hF (qe7 (h.old ha1)) rfl fun r6 w10 S3 cs4 h hF=>?_)))
 obtain ⟨p16,k16,p17,k17,p18,k18,p19,k19,p20,k20,rfl,-,-,-,-,-⟩:=qa7 (h.own 0 rfl)
 refine Ag (h.pick [1,4] rfl) (Ao 3 15 rfl (zcB h hF (qiy (h.own 2 rfl) (h.own 0 rfl)) rfl fun r7 w11 h hF=>G0 31 [4] (h.pick [1,4] rfl) rfl (Ad (qf rfl hF ?_ ?_))))<;>intro hF
 ·exact X0 4 rfl (rb h hF rfl)
 exact X0 5 rfl (rb h hF rfl)
end Go.Fw


namespace Go.Fw
open Go
end Go.Fw


namespace Go.Fw
open Go
set_option maxRecDepth 100000
end Go.Fw


namespace Go.Fw
open Go
set_option maxRecDepth 100000
end Go.Fw


namespace Go.Fw
open Go
set_option maxRecDepth 100000
theorem qfF {b:qq} (h0:qhg b):Ev (fun n=>qbM n b) true:=by
 unfold qbM
 obtain ⟨r1,e1,q1⟩:=qmr (a:=b) (left:=1048576) h0 (by omega) (by omega)
 refine Ev.bind e1 ?_
 rcases q1 with q1|⟨p1,q1⟩
 ·exact Ev.tt (by simpa using q1) .done
 refine Ev.ff (by simp;omega) ?_
 have w0:qem b≤1048576:=by omega
 have k0:=qlx h0 w0
 obtain ⟨R0,hs,hi⟩:=qhF (b:=b) k0
 refine Ev.bind (qiZ w0) ?_
 refine Ev.bind hs ?_
 refine Ev.bind (qiZ w0) ?_
 refine Ev.bind hi ?_
 refine Ev.ff (by simp) ?_
 refine Ev.bind (qiZ w0) ?_
 refine Ev.bind (qmT w0) (Ev.ff rfl ?_)
 exact .done
end Go.Fw
