/- By a program of mine (gen.py): for each function a plain function and the proof that the code computes it. -/
import Derived.Test.YtflinekphmgbeaaGreatDoorB9
import Derived.Test.YtflinekphmgbeaaGreatDoorFw38
open Option renaming bind_some → jd
open Nat renaming le_refl → je, mul_le_mul_right → jr, le_of_ble_eq_true → jt, lt_of_lt_of_le → jx, succ_mul → jK, zero_add → jZ, add_zero → Ja
open Bool renaming and_eq_true → jf, eq_iff_iff → jm, true_and → jA, not_eq_true' → jJ, not_true → Jb
open Go.Result renaming andThen_ok → jg
open List renaming length_append → jh, getElem?_eq_getElem → ji, mem_cons_of_mem → jo, getElem_mem → jp, append_assoc → jq, length_singleton → js, getElem?_append_left → ju, take_succ_eq_append_getElem → jv, getD_eq_getElem?_getD → jw, mem_cons_self → jy, length_map → jz, getElem?_take → jB, getElem?_append_right → jC, take_length → jD, getElem?_toArray → jE, drop_eq_getElem_cons → jF, eq_nil_of_length_eq_zero → jH, length_take → jI, map_append → jL, all_eq_true → jM, not_mem_nil → jO, getElem_of_mem → jP, length_replicate → jQ, size_toArray → jR, mem_cons → jU, append_nil → jX, ext_getElem → jY
open Go.Sem renaming run_bind → jj, run_pure → jk
open Int renaming toNat_natCast → jn, tdiv_eq_ediv_of_nonneg → jG, mul_nonneg → jS, mul_assoc → jT, mul_le_mul → jV, le_refl → jW
open Array renaming getElem?_append_left → jN

namespace Go.Fw
open Go Go.Proofs
open Go.RowKit (Below)
set_option maxRecDepth 100000
set_option maxHeartbeats 1600000
variable {n:Nat} {w:World} {cs1 cs2 cs3 cs4 cs5 cs6 cs7 cs8 cs9:List Value}
def qfn (_:Nat) (list:(List qu)) (a_from:Int) (a_to:Int) (a:Int) (b:Int) (kind:Int) (index:Int):Option (List qu) :=
 (appS list ([(⟨W64 ((W64 (2*a_from))+a),W64 ((W64 (2*a_to))+b),kind,index⟩:qu)]:List qu)).bind fun x1 =>
 some x1
theorem qfR {n:Nat} {w0 w:World} {F:List Ch} {list:(List qu)} {a_from:Int} {a_to:Int} {a:Int} {b:Int} {kind:Int} {index:Int} {S1:Nat→Prop} {p1:Option Addr} {ln1 k1:Nat} (h:SH w0 w (Ch.own S1 (list:(List qu)) [.slice p1 ln1 k1]::F))  {r:(List qu)} (hF:qfn n list a_from a_to a b kind index=some r):RetT Tryz.prog 96 [.slice p1 ln1 k1,.int .i64 a_from,.int .i64 a_to,.int .i64 a,.int .i64 b,.int .i64 kind,.int .i64 index] w w0 F r:=by
 refine qqf Tryz.func96 rfl (m:=29) rfl rfl ?_
 obtain rfl:=(h.sl 0 rfl).2
 refine X0 17 rfl (r_v (qaa qa [0,1,2,3] [.tmp 19,.tmp 23,.tmp 24,.tmp 25] rfl rfl rfl rfl rfl rfl rfl rfl) rfl (qL qa [.tmp 26] _ ([(⟨W64 ((W64 (2*a_from))+a),W64 ((W64 (2*a_to))+b),kind,index⟩:qu)]:List qu) h rfl rfl rfl rfl rfl rfl rfl rfl rfl ⟨(qbZ (⟨W64 ((W64 (2*a_from))+a),W64 ((W64 (2*a_to))+b),kind,index⟩:qu)),trivial⟩ rfl fun w1 p2 S2 h=>?_))
 obtain ⟨x1,hx1,hF⟩:=qc hF
 obtain ⟨g1,hx1⟩:=qaw hx1
 refine qcC qa 1 h rfl (h.sl 0 rfl).1 (h.sl 0 rfl).2 rfl rfl rfl rfl rfl rfl rfl rfl rfl g1 hx1 rfl fun w2 p3 k2 S3 h=>X0 2 rfl ?_
 obtain rfl:=qb hF
 replace h:=h.pickT 2 [1] rfl
 exact qxE qa h ⟨rfl,trivial⟩
def qa6 (arc:qG) (a_from:Int) (a_to:Int) (index:Int) (i1:Int):Nat→(List qu)→Int→Option ((List qu) × Int)
 | 0,_,_=>none
 | n+1,x2,i2 =>
  bif decide (i2≤1) then
   bif (arc.Bf==1) then
    (
     bif (arc.Bp==3) then some true else
     some ((arc.Bp==1)==(i1==i2))).bind fun b1 =>
    bif b1 then
     (qfn n x2 a_from a_to i1 i2 1 index).bind fun r1 =>
     qa6 arc a_from a_to index i1 n r1 (W64 (i2+1))
    else
     qa6 arc a_from a_to index i1 n x2 (W64 (i2+1))
   else
    bif (arc.Bf==2) then
     bif (i1==0) then
      (qfn n x2 a_from a_to i1 i2 1 index).bind fun r2 =>
      qa6 arc a_from a_to index i1 n r2 (W64 (i2+1))
     else
      qa6 arc a_from a_to index i1 n x2 (W64 (i2+1))
    else
     bif (arc.Bf==3) then
      bif (i1==1) then
       (qfn n x2 a_from a_to i1 i2 1 index).bind fun r3 =>
       qa6 arc a_from a_to index i1 n r3 (W64 (i2+1))
      else
       qa6 arc a_from a_to index i1 n x2 (W64 (i2+1))
     else
      qa6 arc a_from a_to index i1 n x2 (W64 (i2+1))
  else
   some (x2,i2)
def qeP (arc:qG) (a_from:Int) (a_to:Int) (index:Int):Nat→(List qu)→Int→Option ((List qu) × Int)
 | 0,_,_=>none
 | n+1,x1,i1 =>
  bif decide (i1≤1) then
   (qa6 arc a_from a_to index i1 n x1 0).bind fun o=>match o with
   | (x2,_) =>
    qeP arc a_from a_to index n x2 (W64 (i1+1))
  else
   some (x1,i1)
def qly (n:Nat) (list:(List qu)) (arc:qG) (a_from:Int) (a_to:Int) (index:Int):Option (List qu) :=
 (qeP arc a_from a_to index n list 0).bind fun o=>match o with
 | (x1,_) =>
  some x1
theorem qqO {n:Nat} {w0 w:World} {F:List Ch} {list:(List qu)} {arc:qG} {a_from:Int} {a_to:Int} {index:Int} {S1:Nat→Prop} {p1:Option Addr} {ln1 k1:Nat} (h:SH w0 w (Ch.own S1 (list:(List qu)) [.slice p1 ln1 k1]::F)) {cs1:List Value} (ha1:GoT.R w0 (old w0) arc cs1) {r:(List qu)} (hF:qly n list arc a_from a_to index=some r):RetT Tryz.prog 92 [.slice p1 ln1 k1,GoT.v qG cs1,.int .i64 a_from,.int .i64 a_to,.int .i64 index] w w0 F r:=by
 obtain ⟨p2,k2,p3,k3,rfl,s1,s2⟩:=qae ha1
 refine qqf Tryz.func92 rfl (m:=55) rfl rfl ?_
 obtain rfl:=(h.sl 0 rfl).2
 refine zSR (qv h rfl rfl fun w1 bb1 h=>X0 7 rfl ?_)
 obtain ⟨o1,hF,hK1⟩:=qc hF
 refine qm (rL (fun m e w'=>∃ (S2:Nat→Prop) (p4:Option Addr) (ln2:Nat) (k4:Nat) (x1:(List qu)) (i1:Int),qeP arc a_from a_to index m x1 i1=some o1∧e=[(0,.slice p4 ln2 k4),(2,.int .i64 a_from),(3,.int .i64 a_to),(4,.int .i64 index),(6,.pointer (some ⟨bb1,0,none⟩)),(11,.int .i64 i1)]∧SH w0 w' (Ch.box bb1 (qg6 arc p2 p3 k2 k3) 173::Ch.own S2 (x1:List qu) [.slice p4 ln2 k4]::F)) n ⟨_,_,_,_,_,_,hF,rfl,h⟩ rfl ?_)
 rintro m1 e1 w2 ⟨S2,p4,ln2,k4,x1,i1,hF,rfl,h⟩
 obtain rfl:=(h.sl 1 rfl).2
 rcases m1 with _|m1
 ·cases hF
 refine X0 6 rfl (qh rfl hF ?_ ?_)<;>intro hF
 ·refine X0 7 rfl ?_
  obtain ⟨o2,hF,hK2⟩:=qc hF
  refine qm (rL (fun m e w'=>∃ (S3:Nat→Prop) (p5:Option Addr) (ln3:Nat) (k5:Nat) (x2:(List qu)) (i2:Int),qa6 arc a_from a_to index i1 m x2 i2=some o2∧e=[(0,.slice p5 ln3 k5),(2,.int .i64 a_from),(3,.int .i64 a_to),(4,.int .i64 index),(6,.pointer (some ⟨bb1,0,none⟩)),(11,.int .i64 i1),(12,.int .i64 i2)]∧SH w0 w' (Ch.box bb1 (qg6 arc p2 p3 k2 k3) 173::Ch.own S3 (x2:List qu) [.slice p5 ln3 k5]::F)) m1 ⟨_,_,_,_,_,_,hF,rfl,h⟩ rfl ?_)
  rintro m2 e2 w3 ⟨S3,p5,ln3,k5,x2,i2,hF,rfl,h⟩
  obtain rfl:=(h.sl 1 rfl).2
  rcases m2 with _|m2
  ·cases hF
  refine X0 6 rfl (qh rfl hF ?_ ?_)<;>intro hF
  ·refine X1 19 0 h rfl (qh rfl hF ?_ ?_)<;>intro hF
   ·obtain ⟨KF1,hKF1,o3,hF,hK3⟩:=bindE hF
    refine qbe (fun e w'=>∃ (b1:Bool),KF1 b1=some o2∧e=[(0,.slice p5 x2.length k5),(2,.int .i64 a_from),(3,.int .i64 a_to),(4,.int .i64 index),(6,.pointer (some ⟨bb1,0,none⟩)),(11,.int .i64 i1),(12,.int .i64 i2),(13,.bool b1)]∧SH w0 w' (Ch.box bb1 (qg6 arc p2 p3 k2 k3) 173::Ch.own S3 (x2:List qu) [.slice p5 x2.length k5]::F)) ?_ ?_
    ·refine X1 5 0 h rfl (qj (t:=29) hF rfl ?_ ?_)<;>intro hF
     ·refine X0 10 rfl ?_
      obtain rfl:=qb hF
      exact rG ⟨_,hK3,rfl,h⟩ rfl
     refine X1 17 0 h rfl ?_
     obtain rfl:=qb hF
     exact rG ⟨_,hK3,rfl,h⟩ rfl
    rintro e3 w5 ⟨b1,hF,rfl,h⟩
    subst hKF1
    refine X0 5 rfl (qh rfl hF ?_ ?_)<;>intro hF
    ·refine X0 7 rfl ?_
     replace h:=h.pickT 2 [1,0] rfl
     obtain ⟨r1,hr1,hF⟩:=qc hF
     refine qn1 (cB 96 rfl) (qfR h hr1) rfl rfl rfl rfl fun w4 S4 p6 k6 h=>X0 8 rfl ?_
     replace h:=h.pickT 2 [1,0] rfl
     exact rK ⟨_,_,_,_,_,_,hF,rfl,h⟩ rfl
    exact X0 7 rfl (rK ⟨_,_,_,_,_,_,hF,rfl,h⟩ rfl)
   refine X0 5 rfl (qh rfl hF ?_ ?_)<;>intro hF
   ·refine X0 10 rfl (qh rfl hF ?_ ?_)<;>intro hF
    ·refine X0 7 rfl ?_
     replace h:=h.pickT 2 [1,0] rfl
     obtain ⟨r2,hr2,hF⟩:=qc hF
     refine qn1 (cB 96 rfl) (qfR h hr2) rfl rfl rfl rfl fun w6 S5 p7 k7 h=>X0 8 rfl ?_
     replace h:=h.pickT 2 [1,0] rfl
     exact rK ⟨_,_,_,_,_,_,hF,rfl,h⟩ rfl
    exact X0 7 rfl (rK ⟨_,_,_,_,_,_,hF,rfl,h⟩ rfl)
   refine X0 5 rfl (qh rfl hF ?_ ?_)<;>intro hF
   ·refine X0 10 rfl (qh rfl hF ?_ ?_)<;>intro hF
    ·refine X0 7 rfl ?_
     replace h:=h.pickT 2 [1,0] rfl
     obtain ⟨r3,hr3,hF⟩:=qc hF
     refine qn1 (cB 96 rfl) (qfR h hr3) rfl rfl rfl rfl fun w7 S6 p8 k8 h=>X0 8 rfl ?_
     replace h:=h.pickT 2 [1,0] rfl
     exact rK ⟨_,_,_,_,_,_,hF,rfl,h⟩ rfl
    exact X0 7 rfl (rK ⟨_,_,_,_,_,_,hF,rfl,h⟩ rfl)
   exact X0 6 rfl (qbW rfl rfl (X0 7 rfl (rK ⟨_,_,_,_,_,_,hF,rfl,h⟩ rfl)))
  refine qq rfl ?_
  obtain rfl:=qb hF;replace hF:=hK2
  exact X0 6 rfl (rK ⟨_,_,_,_,_,_,hF,rfl,h⟩ rfl)
 refine qq rfl ?_
 obtain rfl:=qb hF;replace hF:=hK1
 refine X0 5 rfl ?_
 obtain rfl:=qb hF
 replace h:=h.pickT 2 [1] rfl
 exact qxE qa h ⟨rfl,trivial⟩
def qdQ (a_instance:Int) (pin:Int) (r1:(List Tl05Place)):Nat→Int→Option (Flow Int Int)
 | 0,_=>none
 | n+1,i1 =>
  bif decide (i1<(r1.length:Int)) then
   (idx r1 i1).bind fun y1 =>
   bif (y1.instance_==a_instance) then
    (idx r1 i1).bind fun y2 =>
    bif (y2.pin==pin) then some (.ret i1) else
    qdQ a_instance pin r1 n (W64 (i1+1))
   else
    qdQ a_instance pin r1 n (W64 (i1+1))
  else
   some (.nxt i1)
def qiV (n:Nat) (d:qd) (a_instance:Int) (pin:Int):Option Int :=
 (qcg n d).bind fun r1 =>
 (qdQ a_instance pin r1 n 0).bind fun o=>match o with
 | .ret r=>some r
 | .nxt _ =>
  some (-1)
theorem qmX {d:qd} {a_instance:Int} {pin:Int} (ha1:Ro w d cs1) {r:Int} (hF:qiV n d a_instance pin=some r):RetV Tryz.prog 93 [GoT.v qd cs1,.int .i64 a_instance,.int .i64 pin] w r:=by
 obtain ⟨p1,k1,p2,k2,p3,k3,rfl,s1,s2,s3⟩:=qay ha1
 refine zV 34 Tryz.func93 rfl fun h=>zSR (qv h rfl rfl fun w1 bb1 h=>X1 5 0 h rfl (zcL h hF (qcc (h.old ha1)) rfl fun r1 w2 S1 p4 k4 h hF=>X0 7 rfl ?_))
 obtain ⟨o1,hF,hK1⟩:=qc hF
 refine qm ?_
 replace h:=h.pick [0] rfl
 refine rL (fun m e w'=>∃ (i1:Int),qdQ a_instance pin r1 m i1=some o1∧e=[(1,.int .i64 a_instance),(2,.int .i64 pin),(7,.slice p4 r1.length k4),(8,.int .i64 i1)]∧SH w w' [Ch.own S1 (r1:List Tl05Place) [.slice p4 r1.length k4]]) n ⟨_,hF,rfl,h⟩ rfl ?_
 rintro m1 e1 w3 ⟨i1,hF,rfl,h⟩
 rcases m1 with _|m1
 ·cases hF
 refine X0 8 rfl (qh rfl hF ?_ ?_)<;>intro hF
 ·refine X0 7 rfl ?_
  obtain ⟨y1,hy1,hF,he1,b1,_,q1,cs2,hp1,hq1,hr2,hc2⟩:=(h.sl 0 rfl).1.ix hF
  obtain rfl:=qbL hr2
  refine zx hp1 hq1 ⟨he1.1,qC he1.2.1 (h.sl 0 rfl).2⟩ rfl (zp1 rfl (zc 0 hc2 rfl (zp3 rfl (qj (t:=24) hF rfl ?_ ?_))))<;>intro hF
  ·refine X0 5 rfl ?_
   obtain ⟨y2,hy2,hF,he2,b2,_,q2,cs3,hp2,hq2,hr3,hc3⟩:=(h.sl 0 rfl).1.ix hF
   obtain rfl:=qbL hr3
   refine zx hp2 hq2 ⟨he2.1,qC he2.2.1 (h.sl 0 rfl).2⟩ rfl (X0 3 rfl (zc 1 hc3 rfl (X0 6 rfl (qh rfl hF ?_ ?_))))<;>intro hF
   ·refine X0 5 rfl ?_
    obtain rfl:=qb hF;replace hF:=hK1
    exact ri h hF rfl
   exact X0 7 rfl (rK ⟨_,hF,rfl,h⟩ rfl)
  exact X0 9 rfl (qbW rfl rfl (X0 7 rfl (rK ⟨_,hF,rfl,h⟩ rfl)))
 refine qq rfl ?_
 obtain rfl:=qb hF;replace hF:=hK1
 exact X0 4 rfl (ri h hF rfl)
def qcT (net:Int) (r1:(List Tl05Place)):Nat→Int→Option (Flow Int Int)
 | 0,_=>none
 | n+1,i1 =>
  bif decide (i1<(r1.length:Int)) then
   (idx r1 i1).bind fun y1 =>
   bif (y1.net==net) then
    (idx r1 i1).bind fun y2 =>
    bif y2.drives then some (.ret i1) else
    qcT net r1 n (W64 (i1+1))
   else
    qcT net r1 n (W64 (i1+1))
  else
   some (.nxt i1)
def qiP (n:Nat) (d:qd) (net:Int):Option Int :=
 (qcg n d).bind fun r1 =>
 (qcT net r1 n 0).bind fun o=>match o with
 | .ret r=>some r
 | .nxt _ =>
  some (-1)
theorem qpa {d:qd} {net:Int} (ha1:Ro w d cs1) {r:Int} (hF:qiP n d net=some r):RetV Tryz.prog 94 [GoT.v qd cs1,.int .i64 net] w r:=by
 obtain ⟨p1,k1,p2,k2,p3,k3,rfl,s1,s2,s3⟩:=qay ha1
 refine zV 30 Tryz.func94 rfl fun h=>zSR (qv h rfl rfl fun w1 bb1 h=>X1 5 0 h rfl (zcL h hF (qcc (h.old ha1)) rfl fun r1 w2 S1 p4 k4 h hF=>X0 7 rfl ?_))
 obtain ⟨o1,hF,hK1⟩:=qc hF
 refine qm ?_
 replace h:=h.pick [0] rfl
 refine rL (fun m e w'=>∃ (i1:Int),qcT net r1 m i1=some o1∧e=[(1,.int .i64 net),(5,.slice p4 r1.length k4),(6,.int .i64 i1)]∧SH w w' [Ch.own S1 (r1:List Tl05Place) [.slice p4 r1.length k4]]) n ⟨_,hF,rfl,h⟩ rfl ?_
 rintro m1 e1 w3 ⟨i1,hF,rfl,h⟩
 rcases m1 with _|m1
 ·cases hF
 refine X0 8 rfl (qh rfl hF ?_ ?_)<;>intro hF
 ·refine X0 7 rfl ?_
  obtain ⟨y1,hy1,hF,he1,b1,_,q1,cs2,hp1,hq1,hr2,hc2⟩:=(h.sl 0 rfl).1.ix hF
  obtain rfl:=qbL hr2
  refine zx hp1 hq1 ⟨he1.1,qC he1.2.1 (h.sl 0 rfl).2⟩ rfl (zp1 rfl (zc 2 hc2 rfl (zp3 rfl (qj (t:=22) hF rfl ?_ ?_))))<;>intro hF
  ·refine X0 5 rfl ?_
   obtain ⟨y2,hy2,hF,he2,b2,_,q2,cs3,hp2,hq2,hr3,hc3⟩:=(h.sl 0 rfl).1.ix hF
   obtain rfl:=qbL hr3
   refine zx hp2 hq2 ⟨he2.1,qC he2.2.1 (h.sl 0 rfl).2⟩ rfl (X0 3 rfl (zc 3 hc3 rfl (X0 2 rfl (qh rfl hF ?_ ?_))))<;>intro hF
   ·refine X0 5 rfl ?_
    obtain rfl:=qb hF;replace hF:=hK1
    exact ri h hF rfl
   exact X0 7 rfl (rK ⟨_,hF,rfl,h⟩ rfl)
  exact X0 7 rfl (qbW rfl rfl (X0 7 rfl (rK ⟨_,hF,rfl,h⟩ rfl)))
 refine qq rfl ?_
 obtain rfl:=qb hF;replace hF:=hK1
 exact X0 4 rfl (ri h hF rfl)
def qct (a_0:qg) (i1:Int) (y2:qw):Nat→(List qu)→Int→Option ((List qu) × Int)
 | 0,_,_=>none
 | n+1,x2,i2 =>
  bif decide (i2<(y2.Au.length:Int)) then
   (idx y2.Au i2).bind fun y3 =>
   bif decide (y3.Bf≤3) then
    (idx y2.Au i2).bind fun y4 =>
    (idx y2.Au i2).bind fun y5 =>
    (idx y2.Au i2).bind fun y6 =>
    (qiV n (⟨a_0.Ab.Aa,a_0.Ab.Ak,a_0.Ab.Aj⟩:qd) i1 y5.Bk).bind fun r1 =>
    (qiV n (⟨a_0.Ab.Aa,a_0.Ab.Ak,a_0.Ab.Aj⟩:qd) i1 y6.To).bind fun r2 =>
    (qly n x2 y4 r1 r2 i2).bind fun r3 =>
    qct a_0 i1 y2 n r3 (W64 (i2+1))
   else
    qct a_0 i1 y2 n x2 (W64 (i2+1))
  else
   some (x2,i2)
def qdh (r4:Int) (r5:(List Int)):Nat→(List qu)→Int→Option ((List qu) × Int)
 | 0,_,_=>none
 | n+1,x4,i4 =>
  bif decide (i4<(r5.length:Int)) then
   (idx r5 i4).bind fun y7 =>
   (qfn n x4 r4 y7 0 0 2 i4).bind fun r6 =>
   (idx r5 i4).bind fun y8 =>
   (qfn n r6 r4 y8 1 1 2 i4).bind fun r7 =>
   qdh r4 r5 n r7 (W64 (i4+1))
  else
   some (x4,i4)
def qdl (a_0:qg):Nat→(List qu)→Int→Option ((List qu) × Int)
 | 0,_,_=>none
 | n+1,x3,i3 =>
  bif decide (i3<(a_0.Ab.Ak.length:Int)) then
   (qiP n (⟨a_0.Ab.Aa,a_0.Ab.Ak,a_0.Ab.Aj⟩:qd) i3).bind fun r4 =>
   (qgC n (⟨a_0.Ab.Aa,a_0.Ab.Ak,a_0.Ab.Aj⟩:qd) i3).bind fun r5 =>
   (qdh r4 r5 n x3 0).bind fun o=>match o with
   | (x4,_) =>
    qdl a_0 n x4 (W64 (i3+1))
  else
   some (x3,i3)
def qdq (a_0:qg):Nat→(List qu)→Int→Option ((List qu) × Int)
 | 0,_,_=>none
 | n+1,x1,i1 =>
  bif decide (i1<(a_0.Ab.Aa.length:Int)) then
   (idx a_0.Ab.Aa i1).bind fun y1 =>
   (idx a_0.Av.As y1.Bt).bind fun y2 =>
   (qct a_0 i1 y2 n x1 0).bind fun o=>match o with
   | (x2,_) =>
    qdq a_0 n x2 (W64 (i1+1))
  else
   some (x1,i1)
def qfq (n:Nat) (a_0:qg):Option (List qu) :=
 (qdq a_0 n ([]:List qu) 0).bind fun o=>match o with
 | (x1,_) =>
  (qdl a_0 n x1 0).bind fun o=>match o with
  | (x3,_) =>
   some x3
theorem qhj {a_0:qg} (ha1:Ro w a_0 cs1) {r:(List qu)} (hF:qfq n a_0=some r):RetV Tryz.prog 60 [GoT.v qg cs1] w r:=by
 obtain ⟨p1,k1,p2,k2,p3,k3,p4,k4,p5,k5,rfl,s1,s2,s3,s4,s5⟩:=qac ha1
 refine zV 105 Tryz.func60 rfl fun h=>zSR (qv h rfl rfl fun w1 bb1 h=>X0 4 rfl (qL qa [] _ ([]:List qu) h rfl rfl rfl rfl rfl rfl rfl rfl rfl trivial rfl fun w2 p6 S1 h=>X1 6 1 h rfl (qp qa h rfl rfl rfl fun w3 bb2 h=>zs 0 h rfl fun w4 h=>X0 6 rfl ?_)))
 obtain ⟨o1,hF,hK1⟩:=qc hF
 refine qm (rL (fun m e w'=>∃ (S2:Nat→Prop) (p7:Option Addr) (ln1:Nat) (k6:Nat) (x1:(List qu)) (i1:Int),qdq a_0 m x1 i1=some o1∧e=[(1,.pointer (some ⟨bb1,0,none⟩)),(3,.slice p7 ln1 k6),(4,.pointer (some ⟨bb2,0,none⟩)),(5,.int .i64 i1)]∧SH w w' [Ch.box bb2 (qaS a_0.Ab p2 p3 p4 k2 k3 k4) 48,Ch.own S2 (x1:List qu) [.slice p7 ln1 k6],Ch.box bb1 (qa1 a_0 p1 p2 p3 p4 p5 k1 k2 k3 k4 k5) 51]) n ⟨_,_,_,_,_,_,hF,rfl,h⟩ rfl ?_)
 rintro m1 e1 w5 ⟨S2,p7,ln1,k6,x1,i1,hF,rfl,h⟩
 obtain rfl:=(h.sl 1 rfl).2
 rcases m1 with _|m1
 ·cases hF
 refine X1 9 0 h rfl (qh rfl hF ?_ ?_)<;>intro hF
 ·refine X0 4 rfl (rD (Y1 3 2 h rfl ?_))
  refine Y1 2 0 h rfl ?_
  refine zd1 rfl ?_
  obtain ⟨y1,hy1,hF,he1,b1,_,q1,cs2,hp1,hq1,hr1,hc2⟩:=s2.ix hF
  obtain ⟨p8,k7,rfl,s6⟩:=qP hr1
  refine zdxe hp1 hq1 he1 rfl (zd1 rfl (zdc 1 (hc2.below h.below) rfl ?_))
  obtain ⟨y2,hy2,hF,he2,b2,_,q2,cs3,hp2,hq2,hr2,hc3⟩:=s1.ix hF
  obtain ⟨p9,k8,p10,k9,p11,k10,rfl,s7,s8,s9⟩:=qad hr2
  refine zdxe hp2 hq2 he2 rfl (zd1 rfl (zdc 3 (hc3.below h.below) rfl (zd1 rfl (dN h fun w6 h=>X0 4 rfl ?_))))
  obtain ⟨o2,hF,hK2⟩:=qc hF
  refine qm (rL (fun m e w'=>∃ (S3:Nat→Prop) (p12:Option Addr) (ln2:Nat) (k11:Nat) (x2:(List qu)) (i2:Int),qct a_0 i1 y2 m x2 i2=some o2∧e=[(1,.pointer (some ⟨bb1,0,none⟩)),(3,.slice p12 ln2 k11),(4,.pointer (some ⟨bb2,0,none⟩)),(5,.int .i64 i1),(6,.slice p10 y2.Au.length k9),(7,.int .i64 i2)]∧SH w w' [Ch.box bb2 (qaS a_0.Ab p2 p3 p4 k2 k3 k4) 48,Ch.own S3 (x2:List qu) [.slice p12 ln2 k11],Ch.box bb1 (qa1 a_0 p1 p2 p3 p4 p5 k1 k2 k3 k4 k5) 51]) m1 ⟨_,_,_,_,_,_,hF,rfl,h⟩ rfl ?_)
  rintro m2 e2 w7 ⟨S3,p12,ln2,k11,x2,i2,hF,rfl,h⟩
  obtain rfl:=(h.sl 1 rfl).2
  rcases m2 with _|m2
  ·cases hF
  refine X0 8 rfl (qh rfl hF ?_ ?_)<;>intro hF
  ·refine X0 7 rfl ?_
   obtain ⟨y3,hy3,hF,he3,b3,_,q3,cs4,hp3,hq3,hr3,hc5⟩:=s8.ix hF
   obtain ⟨p13,k12,p14,k13,rfl,s10,s11⟩:=qae hr3
   refine zxe hp3 hq3 he3 rfl (zp1 rfl (zc 0 (hc5.below h.below) rfl (X0 2 rfl (qh rfl hF ?_ ?_))))<;>intro hF
   ·refine rA [] [0] h rfl fun w8 h=>M0 7 [0,1,2] (h.pick [0] rfl) rfl ?_
    obtain ⟨y4,hy4,hF,he4,b4,_,q4,cs5,hp4,hq4,hr4,hc7⟩:=s8.ix hF
    obtain ⟨p15,k14,p16,k15,rfl,s12,s13⟩:=qae hr4
    refine Ae 3 15 hp4 hq4 he4 (h.pick [0] rfl) rfl (Al 4 31 0 hc7 (h.pick [0] rfl) rfl (M1 511 [5,6,7,8] 0 (h.pick [0] rfl) rfl ?_))
    obtain ⟨y5,hy5,hF,he5,b5,_,q5,cs6,hp5,hq5,hr5,hc8⟩:=s8.ix hF
    obtain ⟨p17,k16,p18,k17,rfl,s14,s15⟩:=qae hr5
    refine Ae 9 1023 hp5 hq5 he5 (h.pick [0] rfl) rfl (M0 2047 [10] (h.pick [0] rfl) rfl (Al 11 4095 1 hc8 (h.pick [0] rfl) rfl (M1 126975 [13,14,15,16] 0 (h.pick [0] rfl) rfl ?_)))
    obtain ⟨y6,hy6,hF,he6,b6,_,q6,cs7,hp6,hq6,hr6,hc9⟩:=s8.ix hF
    obtain ⟨p19,k18,p20,k19,rfl,s16,s17⟩:=qae hr6
    refine Ae 17 258047 hp6 hq6 he6 (h.pick [0] rfl) rfl (M0 520191 [18] (h.pick [0] rfl) rfl (Al 19 1044479 2 hc9 (h.pick [0] rfl) rfl (M0 3141631 [21] (h.pick [0] rfl) rfl (Ao 12 3145727 rfl (zcI h hF (qmX (qar _ (h.oldS s2) (h.oldS s3) (h.oldS s4))) rfl fun r1 w9 h hF=>Ag (h.pick [0] rfl) (Ao 20 4194303 rfl (zcI h hF (qmX (qar _ (h.oldS s2) (h.oldS s3) (h.oldS s4))) rfl fun r2 w10 h hF=>Ag (h.pick [0] rfl) (Ao 22 8388607 rfl ?_))))))))
    replace h:=h.pick [1,0,2] rfl
    obtain ⟨r3,hr9,hF⟩:=qc hF
    refine qn1 (cB 92 rfl) (qqO h (qfY y4 s12 s13) hr9) rfl rfl rfl rfl fun w11 S4 p21 k20 h=>G0 16777215 [23] (h.pick [1] rfl) rfl (Ad (X0 6 rfl ?_))
    replace h:=h.pick [1,0,2] rfl
    exact rK ⟨_,_,_,_,_,_,hF,rfl,h⟩ rfl
   exact X0 7 rfl (rK ⟨_,_,_,_,_,_,hF,rfl,h⟩ rfl)
  refine qq rfl ?_
  obtain rfl:=qb hF;replace hF:=hK2
  exact X0 6 rfl (rK ⟨_,_,_,_,_,_,hF,rfl,h⟩ rfl)
 refine qq rfl ?_
 obtain rfl:=qb hF;replace hF:=hK1
 refine X0 5 rfl ?_
 obtain ⟨o3,hF,hK3⟩:=qc hF
 refine qm ?_
 replace h:=h.pick [0,1] rfl
 refine rL (fun m e w'=>∃ (S5:Nat→Prop) (p22:Option Addr) (ln3:Nat) (k21:Nat) (x3:(List qu)) (i3:Int),qdl a_0 m x3 i3=some o3∧e=[(3,.slice p22 ln3 k21),(4,.pointer (some ⟨bb2,0,none⟩)),(8,.int .i64 i3)]∧SH w w' [Ch.box bb2 (qaS a_0.Ab p2 p3 p4 k2 k3 k4) 48,Ch.own S5 (x3:List qu) [.slice p22 ln3 k21]]) n ⟨_,_,_,_,_,_,hF,rfl,h⟩ rfl ?_
 rintro m3 e3 w12 ⟨S5,p22,ln3,k21,x3,i3,hF,rfl,h⟩
 obtain rfl:=(h.sl 1 rfl).2
 rcases m3 with _|m3
 ·cases hF
 refine X1 9 0 h rfl (qh rfl hF ?_ ?_)<;>intro hF
 ·refine X1 7 0 h rfl (zcI h hF (qpa (qar _ (h.oldS s2) (h.oldS s3) (h.oldS s4))) rfl fun r4 w13 h hF=>X1 6 0 h rfl (zcL h hF (qi9 (qar _ (h.oldS s2) (h.oldS s3) (h.oldS s4))) rfl fun r5 w14 S6 p23 k22 h hF=>X0 6 rfl ?_))
  obtain ⟨o4,hF,hK4⟩:=qc hF
  refine qm (rL (fun m e w'=>∃ (S7:Nat→Prop) (p24:Option Addr) (ln4:Nat) (k23:Nat) (x4:(List qu)) (i4:Int),qdh r4 r5 m x4 i4=some o4∧e=[(3,.slice p24 ln4 k23),(4,.pointer (some ⟨bb2,0,none⟩)),(8,.int .i64 i3),(9,.int .i64 r4),(10,.slice p23 r5.length k22),(11,.int .i64 i4)]∧SH w w' [Ch.own S6 (r5:List Int) [.slice p23 r5.length k22],Ch.box bb2 (qaS a_0.Ab p2 p3 p4 k2 k3 k4) 48,Ch.own S7 (x4:List qu) [.slice p24 ln4 k23]]) m3 ⟨_,_,_,_,_,_,hF,rfl,h⟩ rfl ?_)
  rintro m4 e4 w15 ⟨S7,p24,ln4,k23,x4,i4,hF,rfl,h⟩
  obtain rfl:=(h.sl 2 rfl).2
  rcases m4 with _|m4
  ·cases hF
  refine X0 8 rfl (qh rfl hF ?_ ?_)<;>intro hF
  ·refine X0 9 rfl ?_
   obtain ⟨y7,hy7,hF,he7,b7,_,q7,cs8,hp7,hq7,rfl,hc12⟩:=(h.sl 0 rfl).1.ix hF
   refine zx hp7 hq7 ⟨he7.1,qC he7.2.1 (h.sl 0 rfl).2⟩ rfl (zc 0 hc12 rfl (zp1 rfl ?_))
   replace h:=h.pick [2,0,1] rfl
   obtain ⟨r6,hr13,hF⟩:=qc hF
   refine qn1 (cB 96 rfl) (qfR h hr13) rfl rfl rfl rfl fun w16 S8 p25 k24 h=>X0 7 rfl ?_
   obtain ⟨y8,hy8,hF,he8,b8,_,q8,cs9,hp8,hq8,rfl,hc13⟩:=(h.sl 1 rfl).1.ix hF
   refine zx hp8 hq8 ⟨he8.1,qC he8.2.1 (h.sl 1 rfl).2⟩ rfl (zc 0 hc13 rfl (zp1 rfl ?_))
   obtain ⟨r7,hr15,hF⟩:=qc hF
   refine qn1 (cB 96 rfl) (qfR h hr15) rfl rfl rfl rfl fun w17 S9 p26 k25 h=>X0 8 rfl ?_
   replace h:=h.pick [1,2,0] rfl
   exact rK ⟨_,_,_,_,_,_,hF,rfl,h⟩ rfl
  refine qq rfl ?_
  obtain rfl:=qb hF;replace hF:=hK4
  refine X0 6 rfl ?_
  replace h:=h.pick [1,2] rfl
  exact rK ⟨_,_,_,_,_,_,hF,rfl,h⟩ rfl
 refine qq rfl ?_
 obtain rfl:=qb hF;replace hF:=hK3
 refine X0 5 rfl ?_
 obtain rfl:=qb hF
 exact rO 1 h rfl ⟨rfl,trivial⟩
def qcb (list:(List Int)) (a_n:Int):Nat→Int→Option (Flow Bool Int)
 | 0,_=>none
 | n+1,i1 =>
  bif decide (i1<(list.length:Int)) then
   (idx list i1).bind fun y1 =>
   (qau n y1 0 (W64 (a_n-1))).bind fun r1 =>
   bif (!r1) then some (.ret false) else
   bif decide (i1 > 0) then
    (idx list (W64 (i1-1))).bind fun y2 =>
    (idx list i1).bind fun y3 =>
    bif decide (y2 ≥ y3) then some (.ret false) else
    qcb list a_n n (W64 (i1+1))
   else
    qcb list a_n n (W64 (i1+1))
  else
   some (.nxt i1)
def qiT (n:Nat) (list:(List Int)) (a_n:Int):Option Bool :=
 (qcb list a_n n 0).bind fun o=>match o with
 | .ret r=>some r
 | .nxt _ =>
  some true
theorem qo4 {list:(List Int)} {a_n:Int} (ha1:Ro w list cs1) {r:Bool} (hF:qiT n list a_n=some r):RetV Tryz.prog 180 [GoT.v (List Int) cs1,.int .i64 a_n] w r:=by
 obtain ⟨p1,k1,rfl,s1⟩:=ha1
 refine zV 36 Tryz.func180 rfl fun h=>X0 9 rfl ?_
 obtain ⟨o1,hF,hK1⟩:=qc hF
 refine qm (rL (fun m e w'=>∃ (i1:Int),qcb list a_n m i1=some o1∧e=[(0,.slice p1 list.length k1),(1,.int .i64 a_n),(5,.int .i64 i1)]∧SH w w' []) n ⟨_,hF,rfl,h⟩ rfl ?_)
 rintro m1 e1 w1 ⟨i1,hF,rfl,h⟩
 rcases m1 with _|m1
 ·cases hF
 refine X0 8 rfl (qh rfl hF ?_ ?_)<;>intro hF
 ·refine X0 4 rfl (rD (zd2 rfl ?_))
  obtain ⟨y1,hy1,hF,he1,b1,_,q1,cs2,hp1,hq1,rfl,hc2⟩:=s1.ix hF
  refine zdxe hp1 hq1 he1 rfl (zdc 0 (hc2.below h.below) rfl (zd2 rfl ?_))
  obtain ⟨r1,hr2,hF⟩:=qc hF
  refine qa0 r1 (vsB _) (cB 63 rfl) (fun _ hb=>qai  hr2) rfl rfl rfl rfl (zd2 rfl (qaT (t:=20) hF rfl ?_ ?_))<;>intro hF
  ·refine Y0 15 rfl (dN h fun w2 h=>qb0 rfl rfl (X0 4 rfl ?_))
   obtain rfl:=qb hF;replace hF:=hK1
   exact rb h hF rfl
  refine Y0 6 rfl (qaT (t:=23) hF rfl ?_ ?_)<;>intro hF
  ·refine Y0 7 rfl ?_
   obtain ⟨y2,hy2,hF,he2,b2,_,q2,cs3,hp2,hq2,rfl,hc3⟩:=s1.ix hF
   refine zdxe hp2 hq2 he2 rfl (Y0 1 rfl (zdc 0 (hc3.below h.below) rfl (Y0 5 rfl ?_)))
   obtain ⟨y3,hy3,hF,he3,b3,_,q3,cs4,hp3,hq3,rfl,hc4⟩:=s1.ix hF
   refine zdxe hp3 hq3 he3 rfl (Y0 1 rfl (zdc 0 (hc4.below h.below) rfl (Y0 5 rfl (dN h fun w3 h=>qh rfl hF ?_ ?_))))<;>intro hF
   ·refine X0 4 rfl ?_
    obtain rfl:=qb hF;replace hF:=hK1
    exact rb h hF rfl
   exact X0 7 rfl (rK ⟨_,hF,rfl,h⟩ rfl)
  exact Y0 13 rfl (dN h fun w4 h=>qbW rfl rfl (X0 7 rfl (rK ⟨_,hF,rfl,h⟩ rfl)))
 refine qq rfl ?_
 obtain rfl:=qb hF;replace hF:=hK1
 exact X0 4 rfl (rb h hF rfl)
def qhe (n:Nat) (b:qg) (broken:(List Int)):Option Int :=
 (qhx n b).bind fun r1 =>
 bif (!r1) then some 1 else
 (qfq n b).bind fun r2 =>
 (qiT n broken (r2.length:Int)).bind fun r3 =>
 bif (!r3) then some 2 else
 some 0
theorem qmT {b:qg} {broken:(List Int)} (ha1:Ro w b cs1) (ha2:Ro w broken cs2) {r:Int} (hF:qhe n b broken=some r):RetV Tryz.prog 145 [GoT.v qg cs1,GoT.v (List Int) cs2] w r:=by
 obtain ⟨p1,k1,p2,k2,p3,k3,p4,k4,p5,k5,rfl,s1,s2,s3,s4,s5⟩:=qac ha1
 obtain ⟨p6,k6,rfl,s6⟩:=ha2
 refine zV 14 Tryz.func145 rfl fun h=>zSR (qv h rfl rfl fun w1 bb1 h=>X1 6 0 h rfl (zcB h hF (qmY (h.old ha1)) rfl fun r1 w2 h hF=>X0 2 rfl (qh rfl hF ?_ ?_)))<;>intro hF
 ·exact X0 4 rfl (ri h hF rfl)
 refine X1 6 0 h rfl (zcL h hF (qhj (h.old ha1)) rfl fun r2 w3 S1 p7 k7 h hF=>zp1 rfl (zcB h hF (qo4 ⟨_,_,rfl,(h.oldS s6)⟩) rfl fun r3 w4 h hF=>X0 2 rfl (qh rfl hF ?_ ?_)))<;>intro hF
 ·exact X0 4 rfl (ri h hF rfl)
 exact X0 5 rfl (ri h hF rfl)
def qfb (_:Nat) (a:qG):Option (List qO) :=
 bif (a.Bf==2) then some ([(⟨0,0⟩:qO),(⟨0,1⟩:qO)]:List qO) else
 bif (a.Bf==3) then some ([(⟨1,0⟩:qO),(⟨1,1⟩:qO)]:List qO) else
 bif (a.Bf != 1) then some [] else
 bif (a.Bp==1) then some ([(⟨0,0⟩:qO),(⟨1,1⟩:qO)]:List qO) else
 bif (a.Bp==2) then some ([(⟨0,1⟩:qO),(⟨1,0⟩:qO)]:List qO) else
 some ([(⟨0,0⟩:qO),(⟨0,1⟩:qO),(⟨1,0⟩:qO),(⟨1,1⟩:qO)]:List qO)
theorem qlW {a:qG} (ha1:Ro w a cs1) {r:(List qO)} (hF:qfb n a=some r):RetV Tryz.prog 248 [GoT.v qG cs1] w r:=by
 obtain ⟨p1,k1,p2,k2,rfl,s1,s2⟩:=qae ha1
 refine zV 44 Tryz.func248 rfl fun h=>zSR (qv h rfl rfl fun w1 bb1 h=>X0 4 rfl (r_v (qgl qa [0,1] [.const (.int .i64 (0)),.const (.int .i64 (0))] rfl rfl rfl rfl rfl rfl rfl rfl rfl) rfl (r_v (qgl qa [0,1] [.const (.int .i64 (1)),.const (.int .i64 (1))] rfl rfl rfl rfl rfl rfl rfl rfl rfl) rfl (qL qa [.tmp 5,.tmp 6] _ ([(⟨0,0⟩:qO),(⟨1,1⟩:qO)]:List qO) h rfl rfl rfl rfl rfl rfl rfl rfl rfl ⟨(qc3 (⟨0,0⟩:qO)),(qc3 (⟨1,1⟩:qO)),trivial⟩ rfl fun w2 p3 S1 h=>X0 4 rfl (r_v (qgl qa [0,1] [.const (.int .i64 (0)),.const (.int .i64 (1))] rfl rfl rfl rfl rfl rfl rfl rfl rfl) rfl (r_v (qgl qa [0,1] [.const (.int .i64 (1)),.const (.int .i64 (0))] rfl rfl rfl rfl rfl rfl rfl rfl rfl) rfl (qL qa [.tmp 8,.tmp 9] _ ([(⟨0,1⟩:qO),(⟨1,0⟩:qO)]:List qO) h rfl rfl rfl rfl rfl rfl rfl rfl rfl ⟨(qc3 (⟨0,1⟩:qO)),(qc3 (⟨1,0⟩:qO)),trivial⟩ rfl fun w3 p4 S2 h=>X1 11 2 h rfl (qh rfl hF ?_ ?_))))))))<;>intro hF
 ·refine zSR (r_v (qgl qa [0,1] [.const (.int .i64 (0)),.const (.int .i64 (0))] rfl rfl rfl rfl rfl rfl rfl rfl rfl) rfl (r_v (qgl qa [0,1] [.const (.int .i64 (0)),.const (.int .i64 (1))] rfl rfl rfl rfl rfl rfl rfl rfl rfl) rfl (qL qa [.tmp 15,.tmp 16] _ ([(⟨0,0⟩:qO),(⟨0,1⟩:qO)]:List qO) h rfl rfl rfl rfl rfl rfl rfl rfl rfl ⟨(qc3 (⟨0,0⟩:qO)),(qc3 (⟨0,1⟩:qO)),trivial⟩ rfl fun w4 p5 S3 h=>X0 2 rfl ?_)))
  obtain rfl:=qb hF
  exact rO 0 h rfl ⟨rfl,trivial⟩
 refine X1 7 2 h rfl (qh rfl hF ?_ ?_)<;>intro hF
 ·refine zSR (r_v (qgl qa [0,1] [.const (.int .i64 (1)),.const (.int .i64 (0))] rfl rfl rfl rfl rfl rfl rfl rfl rfl) rfl (r_v (qgl qa [0,1] [.const (.int .i64 (1)),.const (.int .i64 (1))] rfl rfl rfl rfl rfl rfl rfl rfl rfl) rfl (qL qa [.tmp 22,.tmp 23] _ ([(⟨1,0⟩:qO),(⟨1,1⟩:qO)]:List qO) h rfl rfl rfl rfl rfl rfl rfl rfl rfl ⟨(qc3 (⟨1,0⟩:qO)),(qc3 (⟨1,1⟩:qO)),trivial⟩ rfl fun w5 p6 S4 h=>X0 2 rfl ?_)))
  obtain rfl:=qb hF
  exact rO 0 h rfl ⟨rfl,trivial⟩
 refine X1 7 2 h rfl (qh rfl hF ?_ ?_)<;>intro hF
 ·refine X0 4 rfl ?_
  obtain rfl:=qb hF
  exact qT qa (ρ:=(List qO)) [GoT.v (List qO) [.slice none 0 0]] h ⟨rfl,trivial⟩ (PV.done h (qZ qg0))
 refine X1 7 2 h rfl (qh rfl hF ?_ ?_)<;>intro hF
 ·refine X0 5 rfl ?_
  obtain rfl:=qb hF
  exact rO 1 h rfl ⟨rfl,trivial⟩
 refine X1 7 2 h rfl (qh rfl hF ?_ ?_)<;>intro hF
 ·refine X0 5 rfl ?_
  obtain rfl:=qb hF
  exact rO 0 h rfl ⟨rfl,trivial⟩
 refine X0 4 rfl (r_v (qgl qa [0,1] [.const (.int .i64 (0)),.const (.int .i64 (0))] rfl rfl rfl rfl rfl rfl rfl rfl rfl) rfl (r_v (qgl qa [0,1] [.const (.int .i64 (0)),.const (.int .i64 (1))] rfl rfl rfl rfl rfl rfl rfl rfl rfl) rfl (r_v (qgl qa [0,1] [.const (.int .i64 (1)),.const (.int .i64 (0))] rfl rfl rfl rfl rfl rfl rfl rfl rfl) rfl (r_v (qgl qa [0,1] [.const (.int .i64 (1)),.const (.int .i64 (1))] rfl rfl rfl rfl rfl rfl rfl rfl rfl) rfl (qL qa [.tmp 39,.tmp 40,.tmp 41,.tmp 42] _ ([(⟨0,0⟩:qO),(⟨0,1⟩:qO),(⟨1,0⟩:qO),(⟨1,1⟩:qO)]:List qO) h rfl rfl rfl rfl rfl rfl rfl rfl rfl ⟨(qc3 (⟨0,0⟩:qO)),(qc3 (⟨0,1⟩:qO)),(qc3 (⟨1,0⟩:qO)),(qc3 (⟨1,1⟩:qO)),trivial⟩ rfl fun w6 p7 S5 h=>X0 2 rfl ?_)))))
 obtain rfl:=qb hF
 exact rO 0 h rfl ⟨rfl,trivial⟩
def qbo (first:Int) (i1:Int) (y2:qG) (r1:(List qO)):Nat→(List qu)→Int→Option ((List qu) × Int)
 | 0,_,_=>none
 | n+1,x2,i2 =>
  bif decide (i2<(r1.length:Int)) then
   (idx r1 i2).bind fun y3 =>
   (appS x2 ([(⟨W64 ((W64 (2*(W64 (first+y2.Bk))))+y3.e0),W64 ((W64 (2*(W64 (first+y2.To))))+y3.e1),1,i1⟩:qu)]:List qu)).bind fun x3 =>
   qbo first i1 y2 r1 n x3 (W64 (i2+1))
  else
   some (x2,i2)
def qbr (first:Int) (y1:qw):Nat→(List qu)→Int→Option ((List qu) × Int)
 | 0,_,_=>none
 | n+1,x1,i1 =>
  bif decide (i1<(y1.Au.length:Int)) then
   (idx y1.Au i1).bind fun y2 =>
   (qfb n y2).bind fun r1 =>
   (qbo first i1 y2 r1 n x1 0).bind fun o=>match o with
   | (x2,_) =>
    qbr first y1 n x2 (W64 (i1+1))
  else
   some (x1,i1)
def qfm (n:Nat) (b:qg) (x:qi) (first:Int):Option (List qu) :=
 (idx b.Av.As x.Bt).bind fun y1 =>
 (qbr first y1 n ([]:List qu) 0).bind fun o=>match o with
 | (x1,_) =>
  some x1
theorem qma {b:qg} {x:qi} {first:Int} (ha1:Ro w b cs1) (ha2:Ro w x cs2) {r:(List qu)} (hF:qfm n b x first=some r):RetV Tryz.prog 216 [GoT.v qg cs1,GoT.v qi cs2,.int .i64 first] w r:=by
 obtain ⟨p1,k1,p2,k2,p3,k3,p4,k4,p5,k5,rfl,s1,s2,s3,s4,s5⟩:=qac ha1
 obtain ⟨p6,k6,rfl,s6⟩:=qP ha2
 refine zV 57 Tryz.func216 rfl fun h=>zSR (qv h rfl rfl fun w1 bb1 h=>qv h rfl rfl fun w2 bb2 h=>X2 14 1 0 h rfl ?_)
 obtain ⟨y1,hy1,hF,he1,b1,_,q1,cs3,hp1,hq1,hr1,hc1⟩:=s1.ix hF
 obtain ⟨p7,k7,p8,k8,p9,k9,rfl,s7,s8,s9⟩:=qad hr1
 refine zxe hp1 hq1 he1 rfl (zp1 rfl (zc 3 (hc1.below h.below) rfl (X0 3 rfl ?_)))
 replace h:=h.nil (α:=qu)
 obtain ⟨o1,hF,hK1⟩:=qc hF
 refine qm ?_
 replace h:=h.pick [0] rfl
 refine rL (fun m e w'=>∃ (S1:Nat→Prop) (p10:Option Addr) (ln1:Nat) (k10:Nat) (x1:(List qu)) (i1:Int),qbr first y1 m x1 i1=some o1∧e=[(2,.int .i64 first),(7,.slice p10 ln1 k10),(19,.slice p8 y1.Au.length k8),(20,.int .i64 (y1.Au.length:Int)),(21,.int .i64 i1)]∧SH w w' [Ch.own S1 (x1:List qu) [.slice p10 ln1 k10]]) n ⟨_,_,_,_,_,_,hF,rfl,h⟩ rfl ?_
 rintro m1 e1 w3 ⟨S1,p10,ln1,k10,x1,i1,hF,rfl,h⟩
 obtain rfl:=(h.sl 0 rfl).2
 rcases m1 with _|m1
 ·cases hF
 refine X0 5 rfl (qh rfl hF ?_ ?_)<;>intro hF
 ·refine X0 6 rfl ?_
  obtain ⟨y2,hy2,hF,he2,b2,_,q2,cs4,hp2,hq2,hr2,hc3⟩:=s8.ix hF
  obtain ⟨p11,k11,p12,k12,rfl,s10,s11⟩:=qae hr2
  refine zxe hp2 hq2 he2 rfl (zc 0 (hc3.below h.below) rfl (qp qa h rfl rfl rfl fun w4 bb3 h=>zp1 rfl (zs 0 h rfl fun w5 h=>X1 4 0 h rfl (zcL h hF (qlW (qfY y2 (h.oldS s10) (h.oldS s11))) rfl fun r1 w6 S2 p13 k13 h hF=>X0 3 rfl ?_))))
  obtain ⟨o2,hF,hK2⟩:=qc hF
  refine qm (rL (fun m e w'=>∃ (S3:Nat→Prop) (p14:Option Addr) (ln2:Nat) (k14:Nat) (x2:(List qu)) (i2:Int),qbo first i1 y2 r1 m x2 i2=some o2∧e=[(2,.int .i64 first),(7,.slice p14 ln2 k14),(8,.int .i64 i1),(9,.pointer (some ⟨bb3,0,none⟩)),(19,.slice p8 y1.Au.length k8),(20,.int .i64 (y1.Au.length:Int)),(21,.int .i64 i1),(27,.slice p13 r1.length k13),(28,.int .i64 (r1.length:Int)),(29,.int .i64 i2)]∧SH w w' [Ch.own S2 (r1:List qO) [.slice p13 r1.length k13],Ch.box bb3 (qg6 y2 p11 p12 k11 k12) 173,Ch.own S3 (x2:List qu) [.slice p14 ln2 k14]]) m1 ⟨_,_,_,_,_,_,hF,rfl,h⟩ rfl ?_)
  rintro m2 e2 w7 ⟨S3,p14,ln2,k14,x2,i2,hF,rfl,h⟩
  obtain rfl:=(h.sl 2 rfl).2
  rcases m2 with _|m2
  ·cases hF
  refine X0 5 rfl (qh rfl hF ?_ ?_)<;>intro hF
  ·refine zKSBSR ?_
   obtain ⟨y3,hy3,hF,he3,b3,_,q3,cs5,hp3,hq3,hr4,hc5⟩:=(h.sl 0 rfl).1.ix hF
   obtain rfl:=qtH hr4
   refine zx hp3 hq3 ⟨he3.1,qC he3.2.1 (h.sl 0 rfl).2⟩ rfl (zc 0 hc5 rfl (qp qa h rfl rfl rfl fun w8 bb4 h=>zs 0 h rfl fun w9 h=>X1 8 2 h rfl (r_v (qzk (iv:=0) qa rfl rfl (by decide) ⟨rfl,rfl⟩ rfl rfl) rfl (X2 7 0 2 h rfl (r_v (qzk (iv:=1) qa rfl rfl (by decide) ⟨rfl,rfl⟩ rfl rfl) rfl (X1 3 0 h rfl (r_v (qaa qa [0,1,2,3] [.tmp 41,.tmp 49,.const (.int .i64 (1)),.tmp 50] rfl rfl rfl rfl rfl rfl rfl rfl) rfl (qL qa [.tmp 51] _ ([(⟨W64 ((W64 (2*(W64 (first+y2.Bk))))+y3.e0),W64 ((W64 (2*(W64 (first+y2.To))))+y3.e1),1,i1⟩:qu)]:List qu) h rfl rfl rfl rfl rfl rfl rfl rfl rfl ⟨(qbZ (⟨W64 ((W64 (2*(W64 (first+y2.Bk))))+y3.e0),W64 ((W64 (2*(W64 (first+y2.To))))+y3.e1),1,i1⟩:qu)),trivial⟩ rfl fun w10 p15 S4 h=>?_))))))))
   obtain ⟨x3,hx1,hF⟩:=qc hF
   obtain ⟨g1,hx1⟩:=qaw hx1
   refine qcC qa 4 h rfl (h.sl 0 rfl).1 (h.sl 0 rfl).2 rfl rfl rfl rfl rfl rfl rfl rfl rfl g1 hx1 rfl fun w11 p16 k15 S5 h=>X0 7 rfl ?_
   replace h:=h.pick [2,3,4] rfl
   exact rK ⟨_,_,_,_,_,_,hF,rfl,h⟩ rfl
  refine qq rfl ?_
  obtain rfl:=qb hF;replace hF:=hK2
  refine X0 5 rfl ?_
  replace h:=h.pick [2] rfl
  exact rK ⟨_,_,_,_,_,_,hF,rfl,h⟩ rfl
 refine qq rfl ?_
 obtain rfl:=qb hF;replace hF:=hK1
 refine X0 5 rfl ?_
 obtain rfl:=qb hF
 exact rO 0 h rfl ⟨rfl,trivial⟩
def qia (_:Nat) (s:(List Int)):Option (List Int) :=
 appS ([]:List Int) s
theorem qm3 {s:(List Int)} (ha1:Ro w s cs1) {r:(List Int)} (hF:qia n s=some r):RetV Tryz.prog 249 [GoT.v (List Int) cs1] w r:=by
 obtain ⟨p,k,rfl,s1⟩:=ha1
 obtain ⟨g1,hx⟩:=qaw (show appS ([]:List Int) s=some r from hF)
 cases p with
 | none =>
  obtain rfl:=qun s1
  obtain rfl:[]=r:=hx
  exact zV 8 Tryz.func249 rfl fun h=>X0 8 rfl (r_v (qud qa rfl rfl rfl rfl rfl) rfl (qcH (qb0 rfl rfl (X0 4 rfl (qT qa (ρ:=(List Int)) [GoT.v (List Int) [.slice none 0 0]] h ⟨rfl,trivial⟩ (PV.done h (qZ qg0)))))))
 | some a =>
  refine zV 8 Tryz.func249 rfl fun h=>X0 8 rfl (r_v (qud qa rfl rfl rfl rfl rfl) rfl (qcH (qbW rfl rfl (zKSR (qL qa [] _ ([]:List Int) h rfl rfl rfl rfl rfl rfl rfl rfl rfl trivial rfl fun w1 p1 S1 h=>zp1 rfl (qzq qa 0 h rfl (h.oldS s1) rfl rfl rfl rfl rfl rfl rfl rfl rfl rfl g1 rfl fun w2 p2 k2 S2 h=>?_))))))
  rw [hx] at h
  exact X0 2 rfl (qT qa (ρ:=(List Int)) [GoT.v (List Int) [.slice p2 (([]:List Int).length+s.length) k2]] h ⟨rfl,trivial⟩ (PV.done h (qZ (qag 0 h rfl))))
def qa8 (net:Int) (r1:(List Tplace)):Nat→(List Int)→Int→Option ((List Int) × Int)
 | 0,_,_=>none
 | n+1,x1,i1 =>
  bif decide (i1<(r1.length:Int)) then
   (idx r1 i1).bind fun y1 =>
   bif (y1.net==net) then
    bif (!y1.drives) then
     (appS x1 ([i1]:List Int)).bind fun x2 =>
     qa8 net r1 n x2 (W64 (i1+1))
    else
     qa8 net r1 n x1 (W64 (i1+1))
   else
    qa8 net r1 n x1 (W64 (i1+1))
  else
   some (x1,i1)
def qgN (n:Nat) (d:qd) (net:Int):Option (List Int) :=
 (qcp n d).bind fun r1 =>
 (qa8 net r1 n ([]:List Int) 0).bind fun o=>match o with
 | (x1,_) =>
  some x1
theorem qnq {d:qd} {net:Int} (ha1:Ro w d cs1) {r:(List Int)} (hF:qgN n d net=some r):RetV Tryz.prog 250 [GoT.v qd cs1,.int .i64 net] w r:=by
 obtain ⟨p1,k1,p2,k2,p3,k3,rfl,s1,s2,s3⟩:=qay ha1
 refine zV 31 Tryz.func250 rfl fun h=>zSR (qv h rfl rfl fun w1 bb1 h=>X1 10 0 h rfl (zcL h hF (qeT (h.old ha1)) rfl fun r1 w2 S1 p4 k4 h hF=>X0 3 rfl ?_))
 replace h:=h.nil (α:=Int)
 obtain ⟨o1,hF,hK1⟩:=qc hF
 refine qm ?_
 replace h:=h.pick [0,1] rfl
 refine rL (fun m e w'=>∃ (S2:Nat→Prop) (p5:Option Addr) (ln1:Nat) (k5:Nat) (x1:(List Int)) (i1:Int),qa8 net r1 m x1 i1=some o1∧e=[(1,.int .i64 net),(5,.slice p5 ln1 k5),(9,.slice p4 r1.length k4),(10,.int .i64 (r1.length:Int)),(11,.int .i64 i1)]∧SH w w' [Ch.own S2 (x1:List Int) [.slice p5 ln1 k5],Ch.own S1 (r1:List Tplace) [.slice p4 r1.length k4]]) n ⟨_,_,_,_,_,_,hF,rfl,h⟩ rfl ?_
 rintro m1 e1 w3 ⟨S2,p5,ln1,k5,x1,i1,hF,rfl,h⟩
 obtain rfl:=(h.sl 0 rfl).2
 rcases m1 with _|m1
 ·cases hF
 refine X0 5 rfl (qh rfl hF ?_ ?_)<;>intro hF
 ·refine X0 6 rfl ?_
  obtain ⟨y1,hy1,hF,he1,b1,_,q1,cs2,hp1,hq1,hr2,hc2⟩:=(h.sl 1 rfl).1.ix hF
  obtain rfl:=qgW hr2
  refine zx hp1 hq1 ⟨he1.1,qC he1.2.1 (h.sl 1 rfl).2⟩ rfl (zc 0 hc2 rfl (qp qa h rfl rfl rfl fun w4 bb2 h=>zp1 rfl (zs 0 h rfl fun w5 h=>X1 8 0 h rfl (qj (t:=20) hF rfl ?_ ?_))))<;>intro hF
  ·refine X1 8 0 h rfl (qh rfl hF ?_ ?_)<;>intro hF
   ·refine X0 3 rfl (qL qa [.tmp 26] _ ([i1]:List Int) h rfl rfl rfl rfl rfl rfl rfl rfl rfl ⟨rfl,trivial⟩ rfl fun w6 p6 S3 h=>?_)
    obtain ⟨x2,hx1,hF⟩:=qc hF
    obtain ⟨g1,hx1⟩:=qaw hx1
    refine qcC qa 2 h rfl (h.sl 0 rfl).1 (h.sl 0 rfl).2 rfl rfl rfl rfl rfl rfl rfl rfl rfl g1 hx1 rfl fun w7 p7 k6 S4 h=>X0 7 rfl ?_
    replace h:=h.pick [2,3] rfl
    exact rK ⟨_,_,_,_,_,_,hF,rfl,h⟩ rfl
   refine X0 6 rfl ?_
   replace h:=h.pick [1,2] rfl
   exact rK ⟨_,_,_,_,_,_,hF,rfl,h⟩ rfl
  refine X0 5 rfl (qbW rfl rfl (X0 6 rfl ?_))
  replace h:=h.pick [1,2] rfl
  exact rK ⟨_,_,_,_,_,_,hF,rfl,h⟩ rfl
 refine qq rfl ?_
 obtain rfl:=qb hF;replace hF:=hK1
 refine X0 5 rfl ?_
 obtain rfl:=qb hF
 exact rO 0 h rfl ⟨rfl,trivial⟩
def qgH (_:Nat) (d:qd) (l:qn) (p:Tplace):Option Int :=
 bif decide (p.instance_<0) then some 0 else
 (idx d.Aa p.instance_).bind fun y1 =>
 (idx l.As y1.Bt).bind fun y2 =>
 (idx y2.Bd p.pin).bind fun y3 =>
 some y3.Bs
theorem qnt {d:qd} {l:qn} {p:Tplace} (ha1:Ro w d cs1) (ha2:Ro w l cs2) (ha3:Ro w p cs3) {r:Int} (hF:qgH n d l p=some r):RetV Tryz.prog 251 [GoT.v qd cs1,GoT.v qn cs2,GoT.v Tplace cs3] w r:=by
 obtain ⟨p1,k1,p2,k2,p3,k3,rfl,s1,s2,s3⟩:=qay ha1
 obtain ⟨p4,k4,rfl,s4⟩:=qbz ha2
 obtain rfl:=qgW ha3
 refine zV 27 Tryz.func251 rfl fun h=>zSR (qv h rfl rfl fun w1 bb1 h=>qv h rfl rfl fun w2 bb2 h=>qv h rfl rfl fun w3 bb3 h=>X1 9 0 h rfl (qh rfl hF ?_ ?_))<;>intro hF
 ·exact X0 4 rfl (ri h hF rfl)
 refine zKS (rD (Y1 2 1 h rfl ?_))
 refine Y1 2 2 h rfl ?_
 refine Y1 2 0 h rfl ?_
 obtain ⟨y1,hy1,hF,he1,b1,_,q1,cs4,hp1,hq1,hr1,hc2⟩:=s1.ix hF
 obtain ⟨p5,k5,rfl,s5⟩:=qP hr1
 refine zdxe hp1 hq1 he1 rfl (zd1 rfl (zdc 1 (hc2.below h.below) rfl ?_))
 obtain ⟨y2,hy2,hF,he2,b2,_,q2,cs5,hp2,hq2,hr2,hc3⟩:=s4.ix hF
 obtain ⟨p6,k6,p7,k7,p8,k8,rfl,s6,s7,s8⟩:=qad hr2
 refine zdxe hp2 hq2 he2 rfl (zd1 rfl (zdc 2 (hc3.below h.below) rfl (Y1 2 0 h rfl ?_)))
 obtain ⟨y3,hy3,hF,he3,b3,_,q3,cs6,hp3,hq3,hr3,hc4⟩:=s6.ix hF
 obtain rfl:=qaZ hr3
 exact zdxe hp3 hq3 he3 rfl (zd1 rfl (zdc 2 (hc4.below h.below) rfl (zd1 rfl (dN h fun w4 h=>ri h hF rfl))))
def qbl (y1:qD):Nat→(List Int)→Int→Option ((List Int) × Int)
 | 0,_,_=>none
 | n+1,x2,i2 =>
  bif decide (i2 > 0) then
   (idx y1.Am i2).bind fun y7 =>
   (idx x2 y7).bind fun y8 =>
   (idx x2 i2).bind fun y9 =>
   (idx x2 y7).bind fun _ =>
   qbl y1 n (setS x2 y7 (W64 (y8+y9))) (W64 (i2-1))
  else
   some (x2,i2)
def qbm (a_0:qg) (y1:qD) (r2:(List Tplace)) (r3:(List Int)):Nat→(List Int)→Int→Option ((List Int) × Int)
 | 0,_,_=>none
 | n+1,x1,i1 =>
  bif decide (i1<(r3.length:Int)) then
   (idx r3 i1).bind fun y2 =>
   (idx y1.Bl i1).bind fun y3 =>
   (idx x1 y3).bind fun y4 =>
   (idx r2 y2).bind fun y5 =>
   (qgH n (⟨a_0.Ab.Aa,a_0.Ab.Ak,a_0.Ab.Aj⟩:qd) (⟨a_0.Av.As⟩:qn) y5).bind fun r4 =>
   (idx x1 y3).bind fun _ =>
   qbm a_0 y1 r2 r3 n (setS x1 y3 (W64 (y4+r4))) (W64 (i1+1))
  else
   some (x1,i1)
def qdv (n:Nat) (a_0:qg) (a_1:Int):Option (List Int) :=
 (idx a_0.Ac a_1).bind fun y1 =>
 (qia n y1.Bs).bind fun r1 =>
 (qcp n (⟨a_0.Ab.Aa,a_0.Ab.Ak,a_0.Ab.Aj⟩:qd)).bind fun r2 =>
 (qgN n (⟨a_0.Ab.Aa,a_0.Ab.Ak,a_0.Ab.Aj⟩:qd) a_1).bind fun r3 =>
 (qbm a_0 y1 r2 r3 n r1 0).bind fun o=>match o with
 | (x1,_) =>
  (qbl y1 n x1 (W64 ((r1.length:Int)-1))).bind fun o=>match o with
  | (x2,_) =>
   some x2
theorem qfK {a_0:qg} {a_1:Int} (ha1:Ro w a_0 cs1) {r:(List Int)} (hF:qdv n a_0 a_1=some r):RetV Tryz.prog 218 [GoT.v qg cs1,.int .i64 a_1] w r:=by
 obtain ⟨p1,k1,p2,k2,p3,k3,p4,k4,p5,k5,rfl,s1,s2,s3,s4,s5⟩:=qac ha1
 refine zV 74 Tryz.func218 rfl fun h=>zSR (qv h rfl rfl fun w1 bb1 h=>X1 7 0 h rfl ?_)
 obtain ⟨y1,hy1,hF,he1,b1,_,q1,cs2,hp1,hq1,hr1,hc1⟩:=s5.ix hF
 obtain ⟨p6,k6,p7,k7,p8,k8,p9,k9,rfl,s6,s7,s8,s9⟩:=qaN hr1
 refine zxe hp1 hq1 he1 rfl (zc 0 (hc1.below h.below) rfl (qp qa h rfl rfl rfl fun w2 bb2 h=>zs 0 h rfl fun w3 h=>X1 5 0 h rfl (zcL h hF (qm3 ⟨_,_,rfl,(h.oldS s8)⟩) rfl fun r1 w4 S1 p10 k10 h hF=>X1 6 2 h rfl (zcL h hF (qeT (qar _ (h.oldS s2) (h.oldS s3) (h.oldS s4))) rfl fun r2 w5 S2 p11 k11 h hF=>X1 8 3 h rfl (zcL h hF (qnq (qar _ (h.oldS s2) (h.oldS s3) (h.oldS s4))) rfl fun r3 w6 S3 p12 k12 h hF=>X0 3 rfl ?_)))))
 obtain ⟨o1,hF,hK1⟩:=qc hF
 refine qm (rL (fun m e w'=>∃ (x1:(List Int)) (i1:Int),qbm a_0 y1 r2 r3 m x1 i1=some o1∧e=[(2,.pointer (some ⟨bb1,0,none⟩)),(5,.pointer (some ⟨bb2,0,none⟩)),(6,.slice p10 r1.length k10),(7,.slice p11 r2.length k11),(25,.slice p12 r3.length k12),(26,.int .i64 (r3.length:Int)),(27,.int .i64 i1)]∧SH w w' [Ch.own S3 (r3:List Int) [.slice p12 r3.length k12],Ch.own S2 (r2:List Tplace) [.slice p11 r2.length k11],Ch.own S1 (x1:List Int) [.slice p10 r1.length k10],Ch.box bb2 (qgI y1 p6 p7 p8 p9 k6 k7 k8 k9) 186,Ch.box bb1 (qa1 a_0 p1 p2 p3 p4 p5 k1 k2 k3 k4 k5) 51]) n ⟨_,_,hF,rfl,h⟩ rfl ?_)
 rintro m1 e1 w7 ⟨x1,i1,hF,rfl,h⟩
 rcases m1 with _|m1
 ·cases hF
 refine X0 5 rfl (qh rfl hF ?_ ?_)<;>intro hF
 ·refine X0 6 rfl ?_
  obtain ⟨y2,hy2,hF,he2,b2,_,q2,cs3,hp2,hq2,rfl,hc3⟩:=(h.sl 0 rfl).1.ix hF
  refine zx hp2 hq2 ⟨he2.1,qC he2.2.1 (h.sl 0 rfl).2⟩ rfl (zc 0 hc3 rfl (X0 3 rfl (rA [19] [1,2,3,4] h rfl fun w8 h=>M1 15 [0,1,2,3] 2 (h.pick [1,2,3,4] rfl) rfl ?_)))
  obtain ⟨y3,hy3,hF,he3,b3,_,q3,cs4,hp3,hq3,rfl,hc4⟩:=s9.ix hF
  refine Ae 4 31 hp3 hq3 he3 (h.pick [1,2,3,4] rfl) rfl (Al 5 63 0 hc4 (h.pick [1,2,3,4] rfl) rfl ?_)
  obtain ⟨y4,hy4,hF,he4,b4,_,q4,cs5,hp4,hq4,rfl,hc5⟩:=(h.sl 2 rfl).1.ix hF
  refine Ax 6 127 hp4 hq4 ⟨he4.1,qC he4.2.1 (h.sl 2 rfl).2⟩ (h.pick [1,2,3,4] rfl) rfl (Aw 7 255 (fun w' hw=>qjN qa (qcf (w1:=w) (S1:=fun _=>False) hw 1 rfl hy4 hp4 hq4 rfl) (j:=0) rfl rfl rfl) (h.pick [1,2,3,4] rfl) rfl ?_)
  refine M2 16383 [8,9,10,11,12,13] 3 3 (h.pick [1,2,3,4] rfl) rfl ?_
  obtain ⟨y5,hy5,hF,he5,b5,_,q5,cs6,hp5,hq5,hr8,hc6⟩:=(h.sl 1 rfl).1.ix hF
  obtain rfl:=qgW hr8
  refine Ax 14 32767 hp5 hq5 ⟨he5.1,qC he5.2.1 (h.sl 1 rfl).2⟩ (h.pick [1,2,3,4] rfl) rfl (Aw 15 65535 (fun w' hw=>qjN qa (qcf hw 0 rfl hy5 hp5 hq5 (qmq (w:=w) (S:=fun _=>False) y5)) (j:=0) rfl rfl rfl) (h.pick [1,2,3,4] rfl) rfl ?_)
  refine Ao 16 131071 rfl (zcI h hF (qnt (qar _ (h.oldS s2) (h.oldS s3) (h.oldS s4)) (qd9 _ (h.oldS s1)) (qmq y5)) rfl fun r4 w9 h hF=>G0 262143 [17] (h.pick [1,2,3,4] rfl) rfl ?_)
  obtain ⟨y6,hy6,hF,he6,b6,_,q6,cs7,hp6,hq6,rfl,hc7⟩:=(h.sl 2 rfl).1.ix hF
  exact Ax 18 524287 hp6 hq6 ⟨he6.1,qC he6.2.1 (h.sl 2 rfl).2⟩ (h.pick [1,2,3,4] rfl) rfl (Ao 19 1048575 rfl (qaA qa 2 0 (W64 (y4+r4)) h rfl hy6 hp6 hq6 rfl hc7 rfl rfl rfl rfl rfl rfl rfl fun w10 h=>qbE (fun hs=>absurd (hs 19 (by decide)) (by decide)) (Ad (X0 5 rfl (rK ⟨_,_,hF,rfl,h⟩ rfl)))))
 refine qq rfl ?_
 obtain rfl:=qb hF;replace hF:=hK1
 refine X0 8 rfl ?_
 obtain ⟨o2,hF,hK2⟩:=qc hF
 refine qm ?_
 replace h:=h.pick [2,3] rfl
 refine rL (fun m e w'=>∃ (x2:(List Int)) (i2:Int),qbl y1 m x2 i2=some o2∧e=[(5,.pointer (some ⟨bb2,0,none⟩)),(6,.slice p10 r1.length k10),(10,.int .i64 i2)]∧SH w w' [Ch.own S1 (x2:List Int) [.slice p10 r1.length k10],Ch.box bb2 (qgI y1 p6 p7 p8 p9 k6 k7 k8 k9) 186]) n ⟨_,_,hF,rfl,h⟩ rfl ?_
 rintro m2 e2 w11 ⟨x2,i2,hF,rfl,h⟩
 rcases m2 with _|m2
 ·cases hF
 refine X0 6 rfl (qh rfl hF ?_ ?_)<;>intro hF
 ·refine zKSB (rA [14] [0,1] h rfl fun w12 h=>M1 15 [0,1,2,3] 1 (h.pick [0,1] rfl) rfl ?_)
  obtain ⟨y7,hy7,hF,he7,b7,_,q7,cs8,hp7,hq7,rfl,hc9⟩:=s6.ix hF
  refine Ae 4 31 hp7 hq7 he7 (h.pick [0,1] rfl) rfl (Al 5 63 0 hc9 (h.pick [0,1] rfl) rfl ?_)
  obtain ⟨y8,hy8,hF,he8,b8,_,q8,cs9,hp8,hq8,rfl,hc10⟩:=(h.sl 0 rfl).1.ix hF
  refine Ax 6 127 hp8 hq8 ⟨he8.1,qC he8.2.1 (h.sl 0 rfl).2⟩ (h.pick [0,1] rfl) rfl (Aw 7 255 (fun w' hw=>qjN qa (qcf (w1:=w) (S1:=fun _=>False) hw 0 rfl hy8 hp8 hq8 rfl) (j:=0) rfl rfl rfl) (h.pick [0,1] rfl) rfl ?_)
  refine M0 1023 [8,9] (h.pick [0,1] rfl) rfl ?_
  obtain ⟨y9,hy9,hF,he9,b9,_,q9,cs10,hp9,hq9,rfl,hc11⟩:=(h.sl 0 rfl).1.ix hF
  refine Ax 10 2047 hp9 hq9 ⟨he9.1,qC he9.2.1 (h.sl 0 rfl).2⟩ (h.pick [0,1] rfl) rfl (Aw 11 4095 (fun w' hw=>qjN qa (qcf (w1:=w) (S1:=fun _=>False) hw 0 rfl hy9 hp9 hq9 rfl) (j:=0) rfl rfl rfl) (h.pick [0,1] rfl) rfl ?_)
  refine M0 8191 [12] (h.pick [0,1] rfl) rfl ?_
  obtain ⟨y10,hy10,hF,he10,b10,_,q10,cs11,hp10,hq10,rfl,hc12⟩:=(h.sl 0 rfl).1.ix hF
  exact Ax 13 16383 hp10 hq10 ⟨he10.1,qC he10.2.1 (h.sl 0 rfl).2⟩ (h.pick [0,1] rfl) rfl (Ao 14 32767 rfl (qaA qa 0 0 (W64 (y8+y9)) h rfl hy10 hp10 hq10 rfl hc12 rfl rfl rfl rfl rfl rfl rfl fun w13 h=>qbE (fun hs=>absurd (hs 14 (by decide)) (by decide)) (Ad (X0 6 rfl (rK ⟨_,_,hF,rfl,h⟩ rfl)))))
 refine qq rfl ?_
 obtain rfl:=qb hF;replace hF:=hK2
 refine X0 5 rfl ?_
 obtain rfl:=qb hF
 exact rO 0 h rfl ⟨rfl,trivial⟩
def qbA (y1:qD) (r1:(List Int)) (x1:(List Int)):Nat→(List Int)→Int→Option ((List Int) × Int)
 | 0,_,_=>none
 | n+1,x2,i1 =>
  bif decide (i1<(x1.length:Int)) then
   (idx y1.Am i1).bind fun y2 =>
   (idx x2 y2).bind fun y3 =>
   (idx y1.Bw i1).bind fun y4 =>
   (idx r1 i1).bind fun y5 =>
   (idx x2 i1).bind fun _ =>
   qbA y1 r1 x1 n (setS x2 i1 (W64 (y3+(W64 (y4*y5))))) (W64 (i1+1))
  else
   some (x2,i1)
def qeS (n:Nat) (b:qg) (net:Int):Option (List Int) :=
 (idx b.Ac net).bind fun y1 =>
 (qdv n b net).bind fun r1 =>
 (mkS (r1.length:Int) (0:Int)).bind fun x1 =>
 (qbA y1 r1 x1 n x1 1).bind fun o=>match o with
 | (x2,_) =>
  some x2
theorem qlR {b:qg} {net:Int} (ha1:Ro w b cs1) {r:(List Int)} (hF:qeS n b net=some r):RetV Tryz.prog 252 [GoT.v qg cs1,.int .i64 net] w r:=by
 obtain ⟨p1,k1,p2,k2,p3,k3,p4,k4,p5,k5,rfl,s1,s2,s3,s4,s5⟩:=qac ha1
 refine zV 49 Tryz.func252 rfl fun h=>zSR (qv h rfl rfl fun w1 bb1 h=>X0 3 rfl (rA [] [0] h rfl fun w2 h=>M1 7 [0,1,2] 0 (h.pick [0] rfl) rfl ?_))
 obtain ⟨y1,hy1,hF,he1,b1,_,q1,cs2,hp1,hq1,hr1,hc1⟩:=s5.ix hF
 obtain ⟨p6,k6,p7,k7,p8,k8,p9,k9,rfl,s6,s7,s8,s9⟩:=qaN hr1
 refine Ae 3 15 hp1 hq1 he1 (h.pick [0] rfl) rfl (Al 4 31 0 hc1 (h.pick [0] rfl) rfl (M1 127 [5,6] 0 (h.pick [0] rfl) rfl ?_))
 obtain ⟨r1,hr2,hF⟩:=qc hF
 refine qnP (fun e w'=>∃ (bb6:Nat) (S5:Nat→Prop) (p14:Option Addr) (k14:Nat),e=[(5,.pointer (some ⟨bb6,0,none⟩)),(6,.slice p14 r1.length k14)]∧SH w w' [Ch.box bb6 (qgI y1 p6 p7 p8 p9 k6 k7 k8 k9) 186,Ch.own S5 (r1:List Int) [.slice p14 r1.length k14],Ch.box bb1 (qa1 b p1 p2 p3 p4 p5 k1 k2 k3 k4 k5) 51]) 0 (bits 11 2047) ?_ ?_
 ·intro K
  refine At 7 8 255 383 rfl ?_ ?_
  ·exact qmJ r1 h (cB 218 rfl) (qfK (h.old ha1) hr2) rfl rfl rfl rfl fun w10 S4 p13 k13 h=>Ag (h.pick [1] rfl) (Ao 8 511 rfl (qp qa h rfl rfl rfl fun w11 bb5 h=>Ag (h.pick [2] rfl) (Ao 9 1023 rfl (zs 0 h rfl fun w12 h=>G0 2047 [10] (h.pick [2] rfl) rfl (qfy [(5,_),(6,_)] ⟨rfl,rfl,trivial⟩ (K _ _ ⟨_,_,_,_,rfl,h⟩))))))
  refine qp qa h rfl rfl rfl fun w10 bb5 h=>Ag (h.pick [1] rfl) (Ao 7 511 rfl (qmJ r1 h (cB 218 rfl) (qfK (h.old ha1) hr2) rfl rfl rfl rfl fun w11 S4 p13 k13 h=>Ag (h.pick [2] rfl) (Ao 9 1023 rfl (zs 1 h rfl fun w12 h=>G0 2047 [10] (h.pick [2] rfl) rfl ?_))))
  replace h:=h.pick [1,0,2] rfl
  exact qfy [(5,_),(6,_)] ⟨rfl,rfl,trivial⟩ (K _ _ ⟨_,_,_,_,rfl,h⟩)
 rintro e2 w13 ⟨bb6,S5,p14,k14,rfl,h⟩
 refine Ad (X0 4 rfl ?_)
 obtain ⟨x1,hx1,hF⟩:=qc hF
 obtain ⟨g1,g2,hx1⟩:=qU hx1
 refine qam qa Int h rfl rfl rfl rfl rfl rfl rfl rfl rfl g1 g2 hx1 rfl fun w14 S6 p15 h=>X0 7 rfl ?_
 obtain ⟨o1,hF,hK1⟩:=qc hF
 refine qm ?_
 replace h:=h.pick [0,1,2] rfl
 refine rL (fun m e w'=>∃ (x2:(List Int)) (i1:Int),qbA y1 r1 x1 m x2 i1=some o1∧e=[(5,.pointer (some ⟨bb6,0,none⟩)),(6,.slice p14 r1.length k14),(7,.slice p15 x1.length x1.length),(8,.int .i64 i1)]∧SH w w' [Ch.own S6 (x2:List Int) [.slice p15 x1.length x1.length],Ch.box bb6 (qgI y1 p6 p7 p8 p9 k6 k7 k8 k9) 186,Ch.own S5 (r1:List Int) [.slice p14 r1.length k14]]) n ⟨_,_,hF,rfl,h⟩ rfl ?_
 rintro m1 e3 w15 ⟨x2,i1,hF,rfl,h⟩
 rcases m1 with _|m1
 ·cases hF
 refine X0 8 rfl (qh rfl hF ?_ ?_)<;>intro hF
 ·refine zKSB (rA [22] [0,1,2] h rfl fun w16 h=>M1 63 [0,1,2,3,4,5] 1 (h.pick [0,1,2] rfl) rfl ?_)
  obtain ⟨y2,hy2,hF,he2,b2,_,q2,cs3,hp2,hq2,rfl,hc3⟩:=s6.ix hF
  refine Ae 6 127 hp2 hq2 he2 (h.pick [0,1,2] rfl) rfl (Al 7 255 0 hc3 (h.pick [0,1,2] rfl) rfl ?_)
  obtain ⟨y3,hy3,hF,he3,b3,_,q3,cs4,hp3,hq3,rfl,hc4⟩:=(h.sl 0 rfl).1.ix hF
  refine Ax 8 511 hp3 hq3 ⟨he3.1,qC he3.2.1 (h.sl 0 rfl).2⟩ (h.pick [0,1,2] rfl) rfl (Aw 9 1023 (fun w' hw=>qjN qa (qcf (w1:=w) (S1:=fun _=>False) hw 0 rfl hy3 hp3 hq3 rfl) (j:=0) rfl rfl rfl) (h.pick [0,1,2] rfl) rfl ?_)
  refine M1 8191 [10,11,12] 1 (h.pick [0,1,2] rfl) rfl ?_
  obtain ⟨y4,hy4,hF,he4,b4,_,q4,cs5,hp4,hq4,rfl,hc5⟩:=s7.ix hF
  refine Ae 13 16383 hp4 hq4 he4 (h.pick [0,1,2] rfl) rfl (Al 14 32767 0 hc5 (h.pick [0,1,2] rfl) rfl (M0 131071 [15,16] (h.pick [0,1,2] rfl) rfl ?_))
  obtain ⟨y5,hy5,hF,he5,b5,_,q5,cs6,hp5,hq5,rfl,hc6⟩:=(h.sl 2 rfl).1.ix hF
  refine Ax 17 262143 hp5 hq5 ⟨he5.1,qC he5.2.1 (h.sl 2 rfl).2⟩ (h.pick [0,1,2] rfl) rfl (Aw 18 524287 (fun w' hw=>qjN qa (qcf (w1:=w) (S1:=fun _=>False) hw 2 rfl hy5 hp5 hq5 rfl) (j:=0) rfl rfl rfl) (h.pick [0,1,2] rfl) rfl ?_)
  refine M0 2097151 [19,20] (h.pick [0,1,2] rfl) rfl ?_
  obtain ⟨y6,hy6,hF,he6,b6,_,q6,cs7,hp6,hq6,rfl,hc7⟩:=(h.sl 0 rfl).1.ix hF
  exact Ax 21 4194303 hp6 hq6 ⟨he6.1,qC he6.2.1 (h.sl 0 rfl).2⟩ (h.pick [0,1,2] rfl) rfl (Ao 22 8388607 rfl (qaA qa 0 0 (W64 (y3+(W64 (y4*y5)))) h rfl hy6 hp6 hq6 rfl hc7 rfl rfl rfl rfl rfl rfl rfl fun w17 h=>qbE (fun hs=>absurd (hs 22 (by decide)) (by decide)) (Ad (X0 6 rfl (rK ⟨_,_,hF,rfl,h⟩ rfl)))))
 refine qq rfl ?_
 obtain rfl:=qb hF;replace hF:=hK1
 refine X0 5 rfl ?_
 obtain rfl:=qb hF
 exact rO 0 h rfl ⟨rfl,trivial⟩
def qa3 (r1:(List Int)) (y1:qD):Nat→(List Int)→Int→Option ((List Int) × Int)
 | 0,_,_=>none
 | n+1,x1,i1 =>
  bif decide (i1<(y1.Bl.length:Int)) then
   (idx y1.Bl i1).bind fun y2 =>
   (idx r1 y2).bind fun y3 =>
   (appS x1 ([y3]:List Int)).bind fun x2 =>
   qa3 r1 y1 n x2 (W64 (i1+1))
  else
   some (x1,i1)
def qec (n:Nat) (b:qg) (net:Int):Option (List Int) :=
 (qeS n b net).bind fun r1 =>
 (idx b.Ac net).bind fun y1 =>
 (qa3 r1 y1 n ([]:List Int) 0).bind fun o=>match o with
 | (x1,_) =>
  some x1
theorem qlh {b:qg} {net:Int} (ha1:Ro w b cs1) {r:(List Int)} (hF:qec n b net=some r):RetV Tryz.prog 219 [GoT.v qg cs1,.int .i64 net] w r:=by
 obtain ⟨p1,k1,p2,k2,p3,k3,p4,k4,p5,k5,rfl,s1,s2,s3,s4,s5⟩:=qac ha1
 refine zV 32 Tryz.func219 rfl fun h=>zSR (qv h rfl rfl fun w1 bb1 h=>X1 6 0 h rfl (zcL h hF (qlR (h.old ha1)) rfl fun r1 w2 S1 p6 k6 h hF=>X1 12 1 h rfl ?_))
 obtain ⟨y1,hy1,hF,he1,b1,_,q1,cs2,hp1,hq1,hr2,hc1⟩:=s5.ix hF
 obtain ⟨p7,k7,p8,k8,p9,k9,p10,k10,rfl,s6,s7,s8,s9⟩:=qaN hr2
 refine zxe hp1 hq1 he1 rfl (zp1 rfl (zc 3 (hc1.below h.below) rfl (X0 3 rfl ?_)))
 replace h:=h.nil (α:=Int)
 obtain ⟨o1,hF,hK1⟩:=qc hF
 refine qm ?_
 replace h:=h.pick [0,1] rfl
 refine rL (fun m e w'=>∃ (S2:Nat→Prop) (p11:Option Addr) (ln1:Nat) (k11:Nat) (x1:(List Int)) (i1:Int),qa3 r1 y1 m x1 i1=some o1∧e=[(5,.slice p6 r1.length k6),(6,.slice p11 ln1 k11),(17,.slice p10 y1.Bl.length k10),(18,.int .i64 (y1.Bl.length:Int)),(19,.int .i64 i1)]∧SH w w' [Ch.own S2 (x1:List Int) [.slice p11 ln1 k11],Ch.own S1 (r1:List Int) [.slice p6 r1.length k6]]) n ⟨_,_,_,_,_,_,hF,rfl,h⟩ rfl ?_
 rintro m1 e1 w3 ⟨S2,p11,ln1,k11,x1,i1,hF,rfl,h⟩
 obtain rfl:=(h.sl 0 rfl).2
 rcases m1 with _|m1
 ·cases hF
 refine X0 5 rfl (qh rfl hF ?_ ?_)<;>intro hF
 ·refine zKSBSR ?_
  obtain ⟨y2,hy2,hF,he2,b2,_,q2,cs3,hp2,hq2,rfl,hc3⟩:=s9.ix hF
  refine zxe hp2 hq2 he2 rfl (zc 0 (hc3.below h.below) rfl (X0 6 rfl ?_))
  obtain ⟨y3,hy3,hF,he3,b3,_,q3,cs4,hp3,hq3,rfl,hc4⟩:=(h.sl 1 rfl).1.ix hF
  refine zx hp3 hq3 ⟨he3.1,qC he3.2.1 (h.sl 1 rfl).2⟩ rfl (zc 0 hc4 rfl (qL qa [.tmp 27] _ ([y3]:List Int) h rfl rfl rfl rfl rfl rfl rfl rfl rfl ⟨rfl,trivial⟩ rfl fun w4 p12 S3 h=>?_))
  obtain ⟨x2,hx1,hF⟩:=qc hF
  obtain ⟨g1,hx1⟩:=qaw hx1
  refine qcC qa 1 h rfl (h.sl 0 rfl).1 (h.sl 0 rfl).2 rfl rfl rfl rfl rfl rfl rfl rfl rfl g1 hx1 rfl fun w5 p13 k12 S4 h=>X0 7 rfl ?_
  replace h:=h.pick [1,2] rfl
  exact rK ⟨_,_,_,_,_,_,hF,rfl,h⟩ rfl
 refine qq rfl ?_
 obtain rfl:=qb hF;replace hF:=hK1
 refine X0 5 rfl ?_
 obtain rfl:=qb hF
 exact rO 0 h rfl ⟨rfl,trivial⟩
def qd0 (x6:(List Int)) (i4:Int) (i5:Int) (y7:Int):Nat→(List qu)→Int→Option ((List qu) × Int)
 | 0,_,_=>none
 | n+1,x14,i6 =>
  bif decide (i6<2) then
   (idx x6 i4).bind fun y8 =>
   (appS x14 ([(⟨W64 ((W64 (2*y8))+i6),W64 ((W64 (2*y7))+i6),2,i5⟩:qu)]:List qu)).bind fun x15 =>
   qd0 x6 i4 i5 y7 n x15 (W64 (i6+1))
  else
   some (x14,i6)
def qdX (x6:(List Int)) (i4:Int) (y6:(List Int)):Nat→(List qu)→Int→Option ((List qu) × Int)
 | 0,_,_=>none
 | n+1,x13,i5 =>
  bif decide (i5<(y6.length:Int)) then
   (idx y6 i5).bind fun y7 =>
   (qd0 x6 i4 i5 y7 n x13 0).bind fun o=>match o with
   | (x14,_) =>
    qdX x6 i4 y6 n x14 (W64 (i5+1))
  else
   some (x13,i5)
def qdR (a_0:qg) (x5:(List (List Int))) (x6:(List Int)):Nat→(List (List Int))→(List Int)→(List qu)→Int→Option ((List (List Int)) × (List Int) × (List qu) × Int)
 | 0,_,_,_,_=>none
 | n+1,x8,x9,x10,i4 =>
  bif decide (i4<(a_0.Ac.length:Int)) then
   (qdv n a_0 i4).bind fun r4 =>
   (idx r4 0).bind fun y5 =>
   (appS x9 ([y5]:List Int)).bind fun x11 =>
   (qec n a_0 i4).bind fun r5 =>
   (appS x8 ([r5]:List (List Int))).bind fun x12 =>
   (idx x5 i4).bind fun y6 =>
   (qdX x6 i4 y6 n x10 0).bind fun o=>match o with
   | (x13,_) =>
    qdR a_0 x5 x6 n x12 x11 x13 (W64 (i4+1))
  else
   some (x8,x9,x10,i4)
def qc7 (r1:(List Tplace)):Nat→(List (List Int))→(List Int)→Int→Option ((List (List Int)) × (List Int) × Int)
 | 0,_,_,_=>none
 | n+1,x5,x6,i3 =>
  bif decide (i3<(r1.length:Int)) then
   (idx r1 i3).bind fun y2 =>
   bif y2.drives then
    (idx x6 y2.net).bind fun _ =>
    qc7 r1 n x5 (setS x6 y2.net i3) (W64 (i3+1))
   else
    (idx x5 y2.net).bind fun y4 =>
    (appS y4 ([i3]:List Int)).bind fun x7 =>
    qc7 r1 n (setS x5 y2.net x7) x6 (W64 (i3+1))
  else
   some (x5,x6,i3)
def qdW (a_0:qg):Nat→(List qu)→Int→Int→Option ((List qu) × Int × Int)
 | 0,_,_,_=>none
 | n+1,x1,i1,i2 =>
  bif decide (i2<(a_0.Ab.Aa.length:Int)) then
   (idx a_0.Ab.Aa i2).bind fun y1 =>
   (qfm n a_0 y1 i1).bind fun r2 =>
   (appS x1 r2).bind fun x2 =>
   (qbs n y1.Ak).bind fun r3 =>
   qdW a_0 n x2 (W64 (i1+r3)) (W64 (i2+1))
  else
   some (x1,i1,i2)
def qkq (n:Nat) (a_0:qg):Option (Option Tview) :=
 (qcp n (⟨a_0.Ab.Aa,a_0.Ab.Ak,a_0.Ab.Aj⟩:qd)).bind fun r1 =>
 (qdW a_0 n ([]:List qu) 0 0).bind fun o=>match o with
 | (x1,_,_) =>
  (mkS (a_0.Ac.length:Int) (0:Int)).bind fun x3 =>
  (mkS (a_0.Ac.length:Int) ([]:(List Int))).bind fun x4 =>
  (qc7 r1 n x4 x3 0).bind fun o=>match o with
  | (x5,x6,_) =>
   (qdR a_0 x5 x6 n ([]:List (List Int)) ([]:List Int) x1 0).bind fun o=>match o with
   | (x8,x9,x10,_) =>
    some (some (⟨(⟨(⟨a_0.Av.As⟩:qn),(⟨a_0.Ab.Aa,a_0.Ab.Ak,a_0.Ab.Aj⟩:qd),a_0.Ac⟩:qg),r1,x10,x9,x8,[]⟩:Tview))
theorem qqr {A:Nat→Prop} (hA:∀ b,A b→old w b) {a_0:qg} (ha1:GoT.R w A a_0 cs1) {r:(Option Tview)} (hF:qkq n a_0=some r):RetG Tryz.prog 188 [GoT.v qg cs1] w A r:=by
 obtain ⟨p1,k1,p2,k2,p3,k3,p4,k4,p5,k5,rfl,s1,s2,s3,s4,s5⟩:=qac ha1
 have hg:=Rg.start hA
 refine qek Tryz.func188 rfl (m:=156) rfl rfl (fun h=>?_)
 refine zSR (qv h rfl rfl fun w1 bb1 h=>X0 3 rfl (rA [] [0] h rfl fun w2 h=>M2 7 [0,1,2] 0 0 (h.pick [0] rfl) rfl (Ao 3 15 rfl (zcL h hF (qeT (qar _ (h.oldS (s2.mono hg.old)) (h.oldS (s3.mono hg.old)) (h.oldS (s4.mono hg.old)))) rfl fun r1 w3 S1 p6 k6 h hF=>Ag (h.pick [1] rfl) (Aw 4 31 (fun w' hw=>qaa qa [0,1] [.tmp 15,.tmp 18] rfl rfl rfl rfl rfl rfl rfl rfl) (h.pick [1] rfl) rfl ?_)))))
 refine Ao 5 63 rfl (qv h rfl rfl fun w4 bb2 h=>G0 127 [6] (h.pick [2] rfl) rfl (Ad (X1 13 2 h rfl ?_)))
 replace h:=h.nil (α:=qu)
 obtain ⟨o1,hF,hK1⟩:=qc hF
 refine qm (rL (fun m e w'=>∃ (S2:Nat→Prop) (p7:Option Addr) (ln1:Nat) (k7:Nat) (x1:(List qu)) (i1:Int) (i2:Int),qdW a_0 m x1 i1 i2=some o1∧e=[(1,.pointer (some ⟨bb1,0,none⟩)),(3,.pointer (some ⟨bb2,0,none⟩)),(4,.int .i64 i1),(23,.slice p2 a_0.Ab.Aa.length k2),(24,.int .i64 (a_0.Ab.Aa.length:Int)),(25,.int .i64 i2)]∧SH w w' [Ch.own S2 (x1:List qu) [.slice p7 ln1 k7],Ch.box bb2 [.slice p1 a_0.Av.As.length k1,.slice p2 a_0.Ab.Aa.length k2,.slice p3 a_0.Ab.Ak.length k3,.slice p4 a_0.Ab.Aj.length k4,.slice p5 a_0.Ac.length k5,.slice p6 r1.length k6,.slice p7 ln1 k7,.slice none 0 0,.slice none 0 0,.slice none 0 0] 151,Ch.own S1 (r1:List Tplace) [.slice p6 r1.length k6],Ch.box bb1 (qa1 a_0 p1 p2 p3 p4 p5 k1 k2 k3 k4 k5) 51]) n ⟨_,_,_,_,_,_,_,hF,rfl,h⟩ rfl ?_)
 rintro m1 e1 w5 ⟨S2,p7,ln1,k7,x1,i1,i2,hF,rfl,h⟩
 obtain rfl:=(h.sl 0 rfl).2
 rcases m1 with _|m1
 ·cases hF
 refine X0 5 rfl (qh rfl hF ?_ ?_)<;>intro hF
 ·refine zKSBSR ?_
  obtain ⟨y1,hy1,hF,he1,b1,_,q1,cs2,hp1,hq1,hr2,hc2⟩:=s2.ix hF
  obtain ⟨p8,k8,rfl,s6⟩:=qP hr2
  refine zxe hp1 hq1 he1 rfl (zc 0 (hc2.below h.below) rfl (qp qa h rfl rfl rfl fun w6 bb3 h=>zs 0 h rfl fun w7 h=>zNS (rA [12] [0,2,4] h rfl fun w8 h=>M3 255 [0,1,2,3,4,5,6,7] 1 2 0 (h.pick [0,2,4] rfl) rfl (Ao 8 511 rfl (zcL h hF (qma (h.old (GoT.mono ha1 hg.old)) (qgy y1 (h.oldS (s6.mono hg.old)))) rfl fun r2 w9 S3 p9 k9 h hF=>Ag (h.pick [1,3,5] rfl) (Ao 9 1023 rfl ?_))))))
  obtain ⟨x2,hx1,hF⟩:=qc hF
  obtain ⟨g1,hx1⟩:=qaw hx1
  refine qcC qa 2 h rfl (h.sl 0 rfl).1 (h.sl 0 rfl).2 rfl rfl rfl rfl rfl rfl rfl rfl rfl g1 hx1 rfl fun w10 p10 k10 S4 h=>Ag (h.pick [1,3,5] rfl) (Ao 10 2047 rfl (zp1 rfl (G0 4095 [11] (h.pick [1,3,5] rfl) rfl (Ao 12 8191 rfl (zs 3 h rfl fun w11 h=>qbE (fun hs=>absurd (hs 12 (by decide)) (by decide)) (Ad (X1 4 1 h rfl (zcI h hF (qcv ⟨_,_,rfl,(h.oldS (s6.mono hg.old))⟩) rfl fun r3 w12 h hF=>X0 8 rfl ?_))))))))
  replace h:=h.pick [2,3,4,5] rfl
  exact rK ⟨_,_,_,_,_,_,_,hF,rfl,h⟩ rfl
 refine qq rfl ?_
 obtain rfl:=qb hF;replace hF:=hK1
 refine X1 5 3 h rfl ?_
 obtain ⟨x3,hx2,hF⟩:=qc hF
 obtain ⟨g2,g3,hx2⟩:=qU hx2
 refine qam qa Int h rfl rfl rfl rfl rfl rfl rfl rfl rfl g2 g3 hx2 rfl fun w13 S5 p11 h=>X1 7 4 h rfl ?_
 obtain ⟨x4,hx3,hF⟩:=qc hF
 obtain ⟨g4,g5,hx3⟩:=qU hx3
 refine qam qa (List Int) h rfl rfl rfl rfl rfl rfl rfl rfl rfl g4 g5 hx3 rfl fun w14 S6 p12 h=>X1 12 3 h rfl ?_
 obtain ⟨o2,hF,hK2⟩:=qc hF
 refine qm (rL (fun m e w'=>∃ (S7:Nat→Prop) (x5:(List (List Int))) (x6:(List Int)) (i3:Int),qc7 r1 m x5 x6 i3=some o2∧e=[(1,.pointer (some ⟨bb1,0,none⟩)),(3,.pointer (some ⟨bb2,0,none⟩)),(7,.slice p11 x3.length x3.length),(8,.slice p12 x4.length x4.length),(58,.slice p6 r1.length k6),(59,.int .i64 (r1.length:Int)),(60,.int .i64 i3)]∧SH w w' [Ch.own S7 (x5:List (List Int)) [.slice p12 x4.length x4.length],Ch.own S5 (x6:List Int) [.slice p11 x3.length x3.length],Ch.own S2 (x1:List qu) [.slice p7 x1.length k7],Ch.box bb2 [.slice p1 a_0.Av.As.length k1,.slice p2 a_0.Ab.Aa.length k2,.slice p3 a_0.Ab.Ak.length k3,.slice p4 a_0.Ab.Aj.length k4,.slice p5 a_0.Ac.length k5,.slice p6 r1.length k6,.slice p7 x1.length k7,.slice none 0 0,.slice none 0 0,.slice none 0 0] 151,Ch.own S1 (r1:List Tplace) [.slice p6 r1.length k6],Ch.box bb1 (qa1 a_0 p1 p2 p3 p4 p5 k1 k2 k3 k4 k5) 51]) n ⟨_,_,_,_,hF,rfl,h⟩ rfl ?_)
 rintro m2 e2 w15 ⟨S7,x5,x6,i3,hF,rfl,h⟩
 rcases m2 with _|m2
 ·cases hF
 refine X0 5 rfl (qh rfl hF ?_ ?_)<;>intro hF
 ·refine X0 6 rfl ?_
  obtain ⟨y2,hy2,hF,he2,b2,_,q2,cs3,hp2,hq2,hr5,hc4⟩:=(h.sl 4 rfl).1.ix hF
  obtain rfl:=qgW hr5
  refine zx hp2 hq2 ⟨he2.1,qC he2.2.1 (h.sl 4 rfl).2⟩ rfl (zc 0 hc4 rfl (qp qa h rfl rfl rfl fun w16 bb4 h=>zp1 rfl (zs 0 h rfl fun w17 h=>X1 6 0 h rfl (qh rfl hF ?_ ?_))))<;>intro hF
  ·refine X1 5 0 h rfl ?_
   obtain ⟨y3,hy3,hF,he3,b3,_,q3,cs4,hp3,hq3,rfl,hc6⟩:=(h.sl 2 rfl).1.ix hF
   refine zx hp3 hq3 ⟨he3.1,qC he3.2.1 (h.sl 2 rfl).2⟩ rfl (qaA qa 2 0 i3 h rfl hy3 hp3 hq3 rfl hc6 rfl rfl rfl rfl rfl rfl rfl fun w18 h=>X0 6 rfl ?_)
   replace h:=h.pick [1,2,3,4,5,6] rfl
   exact rK ⟨_,_,_,_,hF,rfl,h⟩ rfl
  obtain ⟨y4,hy4,hF⟩:=qc hF
  have he4:=qcG hy4
  replace h:=h.pick [1,0,2,3,4,5,6] rfl
  obtain ⟨S8,S9,cs5,h⟩:=h.take hy4
  obtain ⟨p13,k11,rfl,-⟩:=h.own 0 rfl
  refine rA [12] [1,2] h rfl fun w19 h=>M2 63 [0,1,2,3,4,5] 1 1 (h.pick [1,2] rfl) rfl ?_
  obtain ⟨b4,hp4,-,-,hl2⟩:=h.holeAt 1 rfl
  obtain ⟨q4,hq4⟩:∃ q,q=0+(y2.net).toNat*GoT.k (List Int):=⟨_,rfl⟩
  refine Ax 6 127 hp4 hq4 ⟨he4.1,qC he4.2.1 hl2⟩ (h.pick [1,2] rfl) rfl (Aw 7 255 (fun w' hw=>qjN qa (qcM hw 0 rfl hp4 hq4) (j:=0) rfl rfl rfl) (h.pick [1,2] rfl) rfl ?_)
  refine M0 511 [8] (h.pick [1,2] rfl) rfl (Ao 9 1023 rfl (qL qa [.tmp 80] _ ([i3]:List Int) h rfl rfl rfl rfl rfl rfl rfl rfl rfl ⟨rfl,trivial⟩ rfl fun w20 p14 S10 h=>Ag (h.pick [2,3] rfl) (Ao 10 2047 rfl ?_)))
  obtain ⟨x7,hx4,hF⟩:=qc hF
  obtain ⟨g6,hx4⟩:=qaw hx4
  refine qcC qa 1 h rfl (h.sl 0 rfl).1 (h.sl 0 rfl).2 rfl rfl rfl rfl rfl rfl rfl rfl rfl g6 hx4 rfl fun w21 p15 k12 S11 h=>Ag (h.pick [2,3] rfl) ?_
  obtain ⟨b5,hp5,-,-,hl4⟩:=h.holeAt 2 rfl
  obtain ⟨q5,hq5⟩:∃ q,q=0+(y2.net).toNat*GoT.k (List Int):=⟨_,rfl⟩
  refine Ax 11 4095 hp5 hq5 ⟨he4.1,qC he4.2.1 hl4⟩ (h.pick [2,3] rfl) rfl (Ao 12 8191 rfl (qhd qa 2 0 h rfl hp5 hq5 rfl rfl rfl rfl rfl rfl fun w22 h=>?_))
  replace h:SH _ _ [Ch.own S10 (([i3]:List Int):List Int) [.slice p14 1 1],Ch.own S11 (x7:List Int) [.slice p15 x7.length k12],Ch.hole S9 (x5:List (List Int)) p12 x4.length x4.length (y2.net).toNat [.slice p15 x7.length k12],Ch.box bb4 (qrO y2) 252,Ch.own S5 (x6:List Int) [.slice p11 x3.length x3.length],Ch.own S2 (x1:List qu) [.slice p7 x1.length k7],Ch.box bb2 [.slice p1 a_0.Av.As.length k1,.slice p2 a_0.Ab.Aa.length k2,.slice p3 a_0.Ab.Ak.length k3,.slice p4 a_0.Ab.Aj.length k4,.slice p5 a_0.Ac.length k5,.slice p6 r1.length k6,.slice p7 x1.length k7,.slice none 0 0,.slice none 0 0,.slice none 0 0] 151,Ch.own S1 (r1:List Tplace) [.slice p6 r1.length k6],Ch.box bb1 (qa1 a_0 p1 p2 p3 p4 p5 k1 k2 k3 k4 k5) 51]:=h
  refine qbE (fun hs=>absurd (hs 12 (by decide)) (by decide)) (Ad (X0 5 rfl ?_))
  replace h:=h.pick [1,2,0,3,4,5,6,7,8] rfl
  replace h:=h.put
  obtain ⟨S12,h⟩:=qpZ (S:=_) h
  replace h:=h.pick [0,3,4,5,6,7] rfl
  exact rK ⟨_,_,_,_,hF,rfl,h⟩ rfl
 refine qq rfl ?_
 obtain rfl:=qb hF;replace hF:=hK2
 refine X1 8 5 h rfl ?_
 replace h:=h.nil (α:=Int)
 replace h:=h.nil (α:=(List Int))
 obtain ⟨o3,hF,hK3⟩:=qc hF
 refine qm (rL (fun m e w'=>∃ (S13:Nat→Prop) (p16:Option Addr) (ln2:Nat) (k13:Nat) (x8:(List (List Int))) (S14:Nat→Prop) (p17:Option Addr) (ln3:Nat) (k14:Nat) (x9:(List Int)) (S15:Nat→Prop) (p18:Option Addr) (ln4:Nat) (k15:Nat) (x10:(List qu)) (i4:Int),qdR a_0 x5 x6 m x8 x9 x10 i4=some o3∧e=[(1,.pointer (some ⟨bb1,0,none⟩)),(3,.pointer (some ⟨bb2,0,none⟩)),(7,.slice p11 x3.length x3.length),(8,.slice p12 x4.length x4.length),(87,.int .i64 (a_0.Ac.length:Int)),(88,.int .i64 i4)]∧SH w w' [Ch.own S13 (x8:List (List Int)) [.slice p16 ln2 k13],Ch.own S14 (x9:List Int) [.slice p17 ln3 k14],Ch.own S7 (x5:List (List Int)) [.slice p12 x4.length x4.length],Ch.own S5 (x6:List Int) [.slice p11 x3.length x3.length],Ch.own S15 (x10:List qu) [.slice p18 ln4 k15],Ch.box bb2 [.slice p1 a_0.Av.As.length k1,.slice p2 a_0.Ab.Aa.length k2,.slice p3 a_0.Ab.Ak.length k3,.slice p4 a_0.Ab.Aj.length k4,.slice p5 a_0.Ac.length k5,.slice p6 r1.length k6,.slice p18 ln4 k15,.slice p17 ln3 k14,.slice p16 ln2 k13,.slice none 0 0] 151,Ch.own S1 (r1:List Tplace) [.slice p6 r1.length k6],Ch.box bb1 (qa1 a_0 p1 p2 p3 p4 p5 k1 k2 k3 k4 k5) 51]) n ⟨_,_,_,_,_,_,_,_,_,_,_,_,_,_,_,_,hF,rfl,h⟩ rfl ?_)
 rintro m3 e3 w23 ⟨S13,p16,ln2,k13,x8,S14,p17,ln3,k14,x9,S15,p18,ln4,k15,x10,i4,hF,rfl,h⟩
 obtain rfl:=(h.sl 0 rfl).2
 obtain rfl:=(h.sl 1 rfl).2
 obtain rfl:=(h.sl 4 rfl).2
 rcases m3 with _|m3
 ·cases hF
 refine X0 5 rfl (qh rfl hF ?_ ?_)<;>intro hF
 ·refine X0 9 rfl (rA [14] [5,7] h rfl fun w24 h=>M2 127 [0,1,2,3,4,5,6] 0 1 (h.pick [5,7] rfl) rfl (Ao 7 255 rfl (zcL h hF (qfK (h.old (GoT.mono ha1 hg.old))) rfl fun r4 w25 S16 p19 k16 h hF=>Ag (h.pick [6,8] rfl) ?_)))
  obtain ⟨y5,hy5,hF,he5,b6,_,q6,cs6,hp6,hq6,rfl,hc8⟩:=(h.sl 0 rfl).1.ix hF
  refine Ax 8 511 hp6 hq6 ⟨he5.1,qC he5.2.1 (h.sl 0 rfl).2⟩ (h.pick [6,8] rfl) rfl (Ao 9 1023 rfl (zc 0 hc8 rfl (Ag (h.pick [6,8] rfl) (Ao 10 2047 rfl (qL qa [.tmp 100] _ ([y5]:List Int) h rfl rfl rfl rfl rfl rfl rfl rfl rfl ⟨rfl,trivial⟩ rfl fun w26 p20 S17 h=>Ag (h.pick [7,9] rfl) (Ao 11 4095 rfl ?_))))))
  obtain ⟨x11,hx5,hF⟩:=qc hF
  obtain ⟨g7,hx5⟩:=qaw hx5
  refine qcC qa 3 h rfl (h.sl 0 rfl).1 (h.sl 0 rfl).2 rfl rfl rfl rfl rfl rfl rfl rfl rfl g7 hx5 rfl fun w27 p21 k17 S18 h=>Ag (h.pick [7,9] rfl) (Ao 12 8191 rfl (zp1 rfl (G0 16383 [13] (h.pick [7,9] rfl) rfl (Ao 14 32767 rfl (zs 7 h rfl fun w28 h=>qbE (fun hs=>absurd (hs 14 (by decide)) (by decide)) (Ad (qcP (rA [12] [7,9] h rfl fun w29 h=>M2 127 [0,1,2,3,4,5,6] 0 1 (h.pick [7,9] rfl) rfl (Ao 7 255 rfl (zcL h hF (qlh (h.old (GoT.mono ha1 hg.old))) rfl fun r5 w30 S19 p22 k18 h hF=>Ag (h.pick [8,10] rfl) (Ao 8 511 rfl (qwV qa [.tmp 112] _ ([r5]:List (List Int)) [1,2,3,4,5,6,7,8,9,10] h rfl rfl rfl rfl rfl rfl rfl rfl rfl (qxs (qag 0 h rfl) qyZ rfl) rfl rfl fun w31 p23 S20 h=>Ag (h.pick [8,10] rfl) (Ao 9 1023 rfl ?_)))))))))))))
  obtain ⟨x12,hx6,hF⟩:=qc hF
  obtain ⟨g8,hx6⟩:=qaw hx6
  replace h:=h.pick [0,3,1,2,4,5,6,7,8,9,10] rfl
  refine qy1 qa h rfl rfl rfl rfl rfl rfl rfl rfl rfl g8 hx6 rfl fun w32 p24 k19 S21 h=>Ag (h.pick [7,9] rfl) (Ao 10 2047 rfl (zp1 rfl (G0 4095 [11] (h.pick [7,9] rfl) rfl (Ao 12 8191 rfl (zs 7 h rfl fun w33 h=>qbE (fun hs=>absurd (hs 12 (by decide)) (by decide)) (Ad (X0 4 rfl ?_)))))))
  obtain ⟨y6,hy6,hF⟩:=qc hF
  have he6:=qcG hy6
  replace h:=h.lrn0 4 rfl
  obtain ⟨b7,o_5,q7,cs7,hp7,hq7,-,hr10,hc9⟩:=(qlm (h.lrnO 4 rfl)).1.at hy6
  have hr11:=hr10
  obtain ⟨p25,k20,rfl,s7⟩:=hr10
  replace h:=h.lrnAdd 4 rfl hr11
  refine zx hp7 hq7 ⟨he6.1,qC he6.2.1 (qlm (h.lrnO 4 rfl)).2⟩ rfl (zc 0 hc9 rfl (X0 3 rfl ?_))
  obtain ⟨o4,hF,hK4⟩:=qc hF
  refine qm ?_
  replace h:=h.pick [0,3,4,5,6,7,8,9] rfl
  refine rL (fun m e w'=>∃ (S22:Nat→Prop) (p26:Option Addr) (ln5:Nat) (k21:Nat) (x13:(List qu)) (i5:Int),qdX x6 i4 y6 m x13 i5=some o4∧e=[(1,.pointer (some ⟨bb1,0,none⟩)),(3,.pointer (some ⟨bb2,0,none⟩)),(7,.slice p11 x3.length x3.length),(8,.slice p12 x4.length x4.length),(11,.int .i64 i4),(87,.int .i64 (a_0.Ac.length:Int)),(88,.int .i64 i4),(120,.slice p25 y6.length k20),(121,.int .i64 (y6.length:Int)),(122,.int .i64 i5)]∧SH w w' [Ch.own S21 (x12:List (List Int)) [.slice p24 x12.length k19],Ch.own S18 (x11:List Int) [.slice p21 x11.length k17],Ch.lrn S7 (x5:List (List Int)) [.slice p12 x4.length x4.length] [fct (y6:(List Int)) [.slice p25 y6.length k20]],Ch.own S5 (x6:List Int) [.slice p11 x3.length x3.length],Ch.own S22 (x13:List qu) [.slice p26 ln5 k21],Ch.box bb2 [.slice p1 a_0.Av.As.length k1,.slice p2 a_0.Ab.Aa.length k2,.slice p3 a_0.Ab.Ak.length k3,.slice p4 a_0.Ab.Aj.length k4,.slice p5 a_0.Ac.length k5,.slice p6 r1.length k6,.slice p26 ln5 k21,.slice p21 x11.length k17,.slice p24 x12.length k19,.slice none 0 0] 151,Ch.own S1 (r1:List Tplace) [.slice p6 r1.length k6],Ch.box bb1 (qa1 a_0 p1 p2 p3 p4 p5 k1 k2 k3 k4 k5) 51]) m3 ⟨_,_,_,_,_,_,hF,rfl,h⟩ rfl ?_
  rintro m4 e4 w34 ⟨S22,p26,ln5,k21,x13,i5,hF,rfl,h⟩
  obtain rfl:=(h.sl 4 rfl).2
  rcases m4 with _|m4
  ·cases hF
  refine X0 5 rfl (qh rfl hF ?_ ?_)<;>intro hF
  ·refine X0 6 rfl ?_
   obtain ⟨y7,hy7,hF,he7,b8,_,q8,cs8,hp8,hq8,rfl,hc11⟩:=(qlm (GoT.mono (h.lrnS 2 0 rfl rfl) (h.lrnB 2 rfl))).1.ix hF
   refine zx hp8 hq8 ⟨he7.1,qC he7.2.1 (qlm (GoT.mono (h.lrnS 2 0 rfl rfl) (h.lrnB 2 rfl))).2⟩ rfl (zc 0 hc11 rfl (X0 7 rfl ?_))
   obtain ⟨o5,hF,hK5⟩:=qc hF
   refine qm (rL (fun m e w'=>∃ (S23:Nat→Prop) (p27:Option Addr) (ln6:Nat) (k22:Nat) (x14:(List qu)) (i6:Int),qd0 x6 i4 i5 y7 m x14 i6=some o5∧e=[(1,.pointer (some ⟨bb1,0,none⟩)),(3,.pointer (some ⟨bb2,0,none⟩)),(7,.slice p11 x3.length x3.length),(8,.slice p12 x4.length x4.length),(11,.int .i64 i4),(12,.int .i64 i5),(13,.int .i64 y7),(87,.int .i64 (a_0.Ac.length:Int)),(88,.int .i64 i4),(120,.slice p25 y6.length k20),(121,.int .i64 (y6.length:Int)),(122,.int .i64 i5),(127,.int .i64 i6)]∧SH w w' [Ch.own S21 (x12:List (List Int)) [.slice p24 x12.length k19],Ch.own S18 (x11:List Int) [.slice p21 x11.length k17],Ch.lrn S7 (x5:List (List Int)) [.slice p12 x4.length x4.length] [fct (y6:(List Int)) [.slice p25 y6.length k20]],Ch.own S5 (x6:List Int) [.slice p11 x3.length x3.length],Ch.own S23 (x14:List qu) [.slice p27 ln6 k22],Ch.box bb2 [.slice p1 a_0.Av.As.length k1,.slice p2 a_0.Ab.Aa.length k2,.slice p3 a_0.Ab.Ak.length k3,.slice p4 a_0.Ab.Aj.length k4,.slice p5 a_0.Ac.length k5,.slice p6 r1.length k6,.slice p27 ln6 k22,.slice p21 x11.length k17,.slice p24 x12.length k19,.slice none 0 0] 151,Ch.own S1 (r1:List Tplace) [.slice p6 r1.length k6],Ch.box bb1 (qa1 a_0 p1 p2 p3 p4 p5 k1 k2 k3 k4 k5) 51]) m4 ⟨_,_,_,_,_,_,hF,rfl,h⟩ rfl ?_)
   rintro m5 e5 w35 ⟨S23,p27,ln6,k22,x14,i6,hF,rfl,h⟩
   obtain rfl:=(h.sl 4 rfl).2
   rcases m5 with _|m5
   ·cases hF
   refine X0 5 rfl (qh rfl hF ?_ ?_)<;>intro hF
   ·refine X0 8 rfl (rA [22] [3,5] h rfl fun w36 h=>M1 127 [0,1,2,3,4,5,6] 1 (h.pick [3,5] rfl) rfl ?_)
    obtain ⟨y8,hy8,hF,he8,b9,_,q9,cs9,hp9,hq9,rfl,hc13⟩:=(h.sl 3 rfl).1.ix hF
    refine Ax 7 255 hp9 hq9 ⟨he8.1,qC he8.2.1 (h.sl 3 rfl).2⟩ (h.pick [3,5] rfl) rfl (Aw 8 511 (fun w' hw=>qjN qa (qcf (w1:=w) (S1:=fun _=>False) hw 0 rfl hy8 hp9 hq9 rfl) (j:=0) rfl rfl rfl) (h.pick [3,5] rfl) rfl ?_)
    refine M0 131071 [9,10,11,12,13,14,15,16] (h.pick [3,5] rfl) rfl (Aw 17 262143 (fun w' hw=>qaa qa [0,1,2,3] [.tmp 141,.tmp 145,.const (.int .i64 (2)),.tmp 146] rfl rfl rfl rfl rfl rfl rfl rfl) (h.pick [3,5] rfl) rfl ?_)
    refine Ao 18 524287 rfl (qL qa [.tmp 147] _ ([(⟨W64 ((W64 (2*y8))+i6),W64 ((W64 (2*y7))+i6),2,i5⟩:qu)]:List qu) h rfl rfl rfl rfl rfl rfl rfl rfl rfl ⟨(qbZ (⟨W64 ((W64 (2*y8))+i6),W64 ((W64 (2*y7))+i6),2,i5⟩:qu)),trivial⟩ rfl fun w37 p28 S24 h=>Ag (h.pick [4,6] rfl) (Ao 19 1048575 rfl ?_))
    obtain ⟨x15,hx7,hF⟩:=qc hF
    obtain ⟨g9,hx7⟩:=qaw hx7
    refine qcC qa 5 h rfl (h.sl 0 rfl).1 (h.sl 0 rfl).2 rfl rfl rfl rfl rfl rfl rfl rfl rfl g9 hx7 rfl fun w38 p29 k23 S25 h=>Ag (h.pick [4,6] rfl) (Ao 20 2097151 rfl (zp1 rfl (G0 4194303 [21] (h.pick [4,6] rfl) rfl (Ao 22 8388607 rfl (zs 6 h rfl fun w39 h=>qbE (fun hs=>absurd (hs 22 (by decide)) (by decide)) (Ad (X0 5 rfl ?_)))))))
    replace h:=h.pick [1,2,3,4,5,6,7,8] rfl
    exact rK ⟨_,_,_,_,_,_,hF,rfl,h⟩ rfl
   refine qq rfl ?_
   obtain rfl:=qb hF;replace hF:=hK5
   exact X0 5 rfl (rK ⟨_,_,_,_,_,_,hF,rfl,h⟩ rfl)
  refine qq rfl ?_
  obtain rfl:=qb hF;replace hF:=hK4
  refine X0 5 rfl ?_
  replace h:=h.unlrn 2 rfl
  exact rK ⟨_,_,_,_,_,_,_,_,_,_,_,_,_,_,_,_,hF,rfl,h⟩ rfl
 refine qq rfl ?_
 obtain rfl:=qb hF;replace hF:=hK3
 refine X0 5 rfl ?_
 obtain rfl:=qb hF
 have hv1:GoRs.Rs (ρ:=(Option Tview)) h.wc (reg A w h.wc) (some (⟨(⟨(⟨a_0.Av.As⟩:qn),(⟨a_0.Ab.Aa,a_0.Ab.Ak,a_0.Ab.Aj⟩:qd),a_0.Ac⟩:qg),r1,x10,x9,x8,[]⟩:Tview)) [GoT.v (Option Tview) [.pointer (some ⟨bb2,0,none⟩)]]:=⟨_,rfl,(hg.outR h (Rg.boxR (x:=(⟨(⟨(⟨a_0.Av.As⟩:qn),(⟨a_0.Ab.Aa,a_0.Ab.Ak,a_0.Ab.Aj⟩:qd),a_0.Ac⟩:qg),r1,x10,x9,x8,[]⟩:Tview)) 5 h rfl (⟨[.slice p1 a_0.Av.As.length k1,.slice p2 a_0.Ab.Aa.length k2,.slice p3 a_0.Ab.Ak.length k3,.slice p4 a_0.Ab.Aj.length k4,.slice p5 a_0.Ac.length k5],[.slice p6 r1.length k6,.slice p18 x10.length k15,.slice p17 x9.length k14,.slice p16 x8.length k13,.slice none 0 0],rfl,⟨[.slice p1 a_0.Av.As.length k1],[.slice p2 a_0.Ab.Aa.length k2,.slice p3 a_0.Ab.Ak.length k3,.slice p4 a_0.Ab.Aj.length k4,.slice p5 a_0.Ac.length k5],rfl,⟨_,_,rfl,(hg.inS h s1)⟩,⟨[.slice p2 a_0.Ab.Aa.length k2,.slice p3 a_0.Ab.Ak.length k3,.slice p4 a_0.Ab.Aj.length k4],[.slice p5 a_0.Ac.length k5],rfl,⟨[.slice p2 a_0.Ab.Aa.length k2],[.slice p3 a_0.Ab.Ak.length k3,.slice p4 a_0.Ab.Aj.length k4],rfl,⟨_,_,rfl,(hg.inS h s2)⟩,⟨[.slice p3 a_0.Ab.Ak.length k3],[.slice p4 a_0.Ab.Aj.length k4],rfl,⟨_,_,rfl,(hg.inS h s3)⟩,⟨_,_,rfl,(hg.inS h s4)⟩⟩⟩,⟨_,_,rfl,(hg.inS h s5)⟩⟩⟩,⟨[.slice p6 r1.length k6],[.slice p18 x10.length k15,.slice p17 x9.length k14,.slice p16 x8.length k13,.slice none 0 0],rfl,(Rg.ownR 6 h rfl),⟨[.slice p18 x10.length k15],[.slice p17 x9.length k14,.slice p16 x8.length k13,.slice none 0 0],rfl,(Rg.ownR 4 h rfl),⟨[.slice p17 x9.length k14],[.slice p16 x8.length k13,.slice none 0 0],rfl,(Rg.ownR 1 h rfl),⟨[.slice p16 x8.length k13],[.slice none 0 0],rfl,(Rg.ownR 0 h rfl),⟨_,_,rfl,qnQ⟩⟩⟩⟩⟩⟩)))⟩
 exact qdS qa (ρ:=(Option Tview)) (r:=(some (⟨(⟨(⟨a_0.Av.As⟩:qn),(⟨a_0.Ab.Aa,a_0.Ab.Ak,a_0.Ab.Aj⟩:qd),a_0.Ac⟩:qg),r1,x10,x9,x8,[]⟩:Tview))) [GoT.v (Option Tview) [.pointer (some ⟨bb2,0,none⟩)]] h ⟨rfl,trivial⟩ hv1
def qb3 (c:qt):Nat→Int→Option (Flow Bool Int)
 | 0,_=>none
 | n+1,i1 =>
  bif decide (i1<((4:Nat):Int)) then
   (idx ([c.Ar,c.Az,c.Aq,c.Ba]:List Int) i1).bind fun y1 =>
   (qau n y1 100 5000).bind fun r1 =>
   bif (!r1) then some (.ret false) else
   qb3 c n (W64 (i1+1))
  else
   some (.nxt i1)
def qhO (n:Nat) (c:qt):Option Bool :=
 (qb3 c n 0).bind fun o=>match o with
 | .ret r=>some r
 | .nxt _ =>
  (qf7 n c.Bb).bind fun r2 =>
  bif r2 then
   bif decide (c.Ar≤c.Az) then some (decide (c.Aq≤c.Ba)) else
   some false
  else
   some false
theorem qpx {c:qt} (ha1:Ro w c cs1) {r:Bool} (hF:qhO n c=some r):RetV Tryz.prog 144 [GoT.v qt cs1] w r:=by
 obtain rfl:=qaJ ha1
 refine zV 43 Tryz.func144 rfl fun h=>zSR (qv h rfl rfl fun w1 bb1 h=>X4 12 0 0 0 0 h rfl (qL qa [.tmp 6,.tmp 8,.tmp 10,.tmp 12] _ ([c.Ar,c.Az,c.Aq,c.Ba]:List Int) h rfl rfl rfl rfl rfl rfl rfl rfl rfl ⟨rfl,rfl,rfl,rfl,trivial⟩ rfl fun w2 p1 S1 h=>X0 7 rfl ?_))
 obtain ⟨o1,hF,hK1⟩:=qc hF
 refine qm (rL (fun m e w'=>∃ (i1:Int),qb3 c m i1=some o1∧e=[(1,.pointer (some ⟨bb1,0,none⟩)),(3,.slice p1 4 4),(4,.int .i64 i1)]∧SH w w' [Ch.own S1 (([c.Ar,c.Az,c.Aq,c.Ba]:List Int):List Int) [.slice p1 4 4],Ch.box bb1 (qb2 c) 52]) n ⟨_,hF,rfl,h⟩ rfl ?_)
 rintro m1 e1 w3 ⟨i1,hF,rfl,h⟩
 rcases m1 with _|m1
 ·cases hF
 refine X0 8 rfl (qh rfl hF ?_ ?_)<;>intro hF
 ·refine X0 7 rfl ?_
  obtain ⟨y1,hy1,hF,he1,b1,_,q1,cs2,hp1,hq1,rfl,hc2⟩:=(h.sl 0 rfl).1.ix hF
  refine zx hp1 hq1 ⟨he1.1,qC he1.2.1 (h.sl 0 rfl).2⟩ rfl (zc 0 hc2 rfl (zcB h hF qai rfl fun r1 w4 h hF=>X0 2 rfl (qh rfl hF ?_ ?_)))<;>intro hF
  ·refine X0 4 rfl ?_
   obtain rfl:=qb hF;replace hF:=hK1
   exact rb h hF rfl
  exact X0 7 rfl (rK ⟨_,hF,rfl,h⟩ rfl)
 refine qq rfl ?_
 obtain rfl:=qb hF;replace hF:=hK1
 refine X1 4 1 h rfl (zcB h hF qh1 rfl fun r2 w5 h hF=>zp1 rfl (qj (t:=29) hF rfl ?_ ?_))<;>intro hF
 ·refine X2 12 1 1 h rfl (qj (t:=36) hF rfl ?_ ?_)<;>intro hF
  ·exact X2 13 1 1 h rfl (rb h hF rfl)
  exact X0 8 rfl (rb h hF rfl)
 exact X0 15 rfl (rb h hF rfl)
def qgo (_:Nat) (early:Int) (late:Int):Option Bool :=
 bif decide (early ≥ 100) then
  bif decide (early≤late) then some (decide (late≤5000)) else
  some false
 else
  some false
theorem qkS {early:Int} {late:Int}  {r:Bool} (hF:qgo n early late=some r):RetV Tryz.prog 215 [.int .i64 early,.int .i64 late] w r:=by
 refine zV 16 Tryz.func215 rfl fun h=>X0 9 rfl (qj (t:=7) hF rfl ?_ ?_)<;>intro hF
 ·refine X0 8 rfl (qj (t:=12) hF rfl ?_ ?_)<;>intro hF
  ·exact X0 7 rfl (rb h hF rfl)
  exact X0 5 rfl (rb h hF rfl)
 exact X0 10 rfl (rb h hF rfl)
def qhI (n:Nat) (c:qt):Option Bool :=
 (qik n c.Bb).bind fun r1 =>
 bif r1 then
  (qgo n c.Ar c.Az).bind fun r2 =>
  bif r2 then
   (qgo n c.Aq c.Ba).bind fun r3 =>
   some r3
  else
   some false
 else
  some false
theorem qpu {c:qt} (ha1:Ro w c cs1) {r:Bool} (hF:qhI n c=some r):RetV Tryz.prog 187 [GoT.v qt cs1] w r:=by
 obtain rfl:=qaJ ha1
 refine zV 20 Tryz.func187 rfl fun h=>zSR (qv h rfl rfl fun w1 bb1 h=>X1 6 0 h rfl (zcB h hF qkM rfl fun r1 w2 h hF=>zp1 rfl (qj (t:=6) hF rfl ?_ ?_)))<;>intro hF
 ·refine X2 9 0 0 h rfl (zcB h hF qkS rfl fun r2 w3 h hF=>zp2 rfl (qj (t:=13) hF rfl ?_ ?_))<;>intro hF
  ·exact X2 9 0 0 h rfl (zcB h hF qkS rfl fun r3 w4 h hF=>X0 3 rfl (rb h hF rfl))
  exact X0 8 rfl (rb h hF rfl)
 exact X0 15 rfl (rb h hF rfl)
def qjo (_:Nat) (a:qt) (left:Int):Option Int :=
 bif decide ((W64 (left-(a.Bb.size:Int)))<0) then some (-1) else
 some (W64 (left-(a.Bb.size:Int)))
theorem qpW {a:qt} {left:Int} (ha1:Ro w a cs1) {r:Int} (hF:qjo n a left=some r):RetV Tryz.prog 30 [GoT.v qt cs1,.int .i64 left] w r:=by
 obtain rfl:=qaJ ha1
 refine zV 13 Tryz.func30 rfl fun h=>zSR (qv h rfl rfl fun w1 bb1 h=>X1 17 0 h rfl (qh rfl hF ?_ ?_))<;>intro hF
 ·exact X0 4 rfl (ri h hF rfl)
 exact X0 6 rfl (ri h hF rfl)
def qjA (_:Nat) (a:qt):Option qt :=
 some (⟨a.Bb,a.Ar,a.Az,a.Aq,a.Ba⟩:qt)
theorem qpp {a:qt} (ha1:Ro w a cs1) {r:qt} (hF:qjA n a=some r):RetV Tryz.prog 38 [GoT.v qt cs1] w r:=by
 obtain rfl:=qaJ ha1
 refine zV 20 Tryz.func38 rfl fun h=>zSR (qv h rfl rfl fun w1 bb1 h=>qp qa h rfl rfl rfl fun w2 bb2 h=>zNSR (qp qa h rfl rfl rfl fun w3 bb3 h=>X1 6 2 h rfl (zs 0 h rfl fun w4 h=>X1 6 2 h rfl (zs 0 h rfl fun w5 h=>X1 6 2 h rfl (zs 0 h rfl fun w6 h=>X1 6 2 h rfl (zs 0 h rfl fun w7 h=>X1 6 2 h rfl (zs 0 h rfl fun w8 h=>X1 4 0 h rfl (zs 1 h rfl fun w9 h=>qcH ?_))))))))
 obtain rfl:=qb hF
 exact qT qa (ρ:=qt) [GoT.v qt (qb2 a)] h ⟨⟨_,_,_,rfl,rfl,h.box 1 rfl,rfl⟩,trivial⟩ (PV.done h (qZ (qx (S:=fun _=>False) (qc6 (⟨a.Bb,a.Ar,a.Az,a.Aq,a.Ba⟩:qt)))))
def qjv (_:Nat) (a:qt) (b:qt):Option Bool :=
 bif (a.Bb.toList != b.Bb.toList) then some false else
 bif (a.Ar != b.Ar) then some false else
 bif (a.Az != b.Az) then some false else
 bif (a.Aq != b.Aq) then some false else
 bif (a.Ba != b.Ba) then some false else
 some true
theorem qpN {a:qt} {b:qt} (ha1:Ro w a cs1) (ha2:Ro w b cs2) {r:Bool} (hF:qjv n a b=some r):RetV Tryz.prog 44 [GoT.v qt cs1,GoT.v qt cs2] w r:=by
 obtain rfl:=qaJ ha1
 obtain rfl:=qaJ ha2
 refine zV 30 Tryz.func44 rfl fun h=>zSR (qv h rfl rfl fun w1 bb1 h=>qv h rfl rfl fun w2 bb2 h=>X2 11 1 0 h rfl (qh rfl hF ?_ ?_))<;>intro hF
 ·exact X0 4 rfl (rb h hF rfl)
 refine X2 10 1 0 h rfl (qh rfl hF ?_ ?_)<;>intro hF
 ·exact X0 4 rfl (rb h hF rfl)
 refine X2 10 1 0 h rfl (qh rfl hF ?_ ?_)<;>intro hF
 ·exact X0 4 rfl (rb h hF rfl)
 refine X2 10 1 0 h rfl (qh rfl hF ?_ ?_)<;>intro hF
 ·exact X0 4 rfl (rb h hF rfl)
 refine X2 10 1 0 h rfl (qh rfl hF ?_ ?_)<;>intro hF
 ·exact X0 4 rfl (rb h hF rfl)
 exact X0 5 rfl (rb h hF rfl)
end Go.Fw


namespace Go.Fw
open Go
set_option maxRecDepth 100000
theorem qwR {d:qd} {k:Int} {n i:Nat} (hi:i<(sinksL d k n).length):∃ y:Nat,y<n∧idx (sinksL d k n) (i:Int)=some (y:Int)∧snkQ d k y=true:=by
 rw [qgR hi]
 have hm:(sinksL d k n)[i] ∈ sinksL d k n:=jp hi
 generalize (sinksL d k n)[i]=z at hm
 unfold sinksL at hm
 obtain ⟨y,hy,rfl⟩:=List.mem_map.1 hm
 obtain ⟨h1,h2⟩:=List.mem_filter.1 hy
 exact ⟨y,List.mem_range.1 h1,rfl,h2⟩
theorem qsb {d:qd} {k:Int} (h:smallD d):Ev (fun n=>qgN n d k) (sinksL d k (places d).length):=by
 have hl:=qbb h
 have hL:Ev (fun n=>qa8 k (places d) n ([]:List Int) 0) (sinksL d k (places d).length,((places d).length:Int)):=by
  refine loopF (Lf:=qa8 k (places d)) (S:=fun j=>sinksL d k j) (len:=(places d).length) (fun n=>?_) (fun j hj X hX=>?_)
  ·simp only [qa8,ql (je _),cond_false]
  ·have hc:(sinksL d k j).length+[(j:Int)].length≤2147483648:=by
    rw [qji]
    have:cntP (snkQ d k) j≤j:=qgf
    simp;omega
   simp only [qa8,qk hj,cond_true,qB hj,jd,wS j]
   rw [qjO] at hX
   unfold snkQ at hX
   cases h1:((gt (places d) j).net==k)
   ·rw [h1] at hX
    simp only [Bool.false_and,cond_false,jX] at hX ⊢
    exact hX
   ·cases h2:(gt (places d) j).drives
    ·rw [h1,h2] at hX
     simp only [Bool.not_false,Bool.and_self,cond_true,qdb hc,jd] at hX ⊢
     exact hX
    ·rw [h1,h2] at hX
     simp only [Jb,Bool.and_false,cond_false,jX,cond_true] at hX ⊢
     exact hX
 unfold qgN
 exact Ev.bind (qn2 h) (Ev.bind hL .done)
structure wireOk (b:qg) (i:Nat):Prop where
 lo:1≤(gt b.Ac i).Am.length
 hi:(gt b.Ac i).Am.length≤8
 res:(gt b.Ac i).Bw.length=(gt b.Ac i).Am.length
 cap:(gt b.Ac i).Bs.length=(gt b.Ac i).Am.length
 par:∀ j,0<j→j<(gt b.Ac i).Am.length→0≤at0 (gt b.Ac i).Am j∧at0 (gt b.Ac i).Am j<j
 snk:(gt b.Ac i).Bl.length=(sinksL b.Ab (i:Int) (places b.Ab).length).length
 sin:∀ j,j<(gt b.Ac i).Bl.length→0≤at0 (gt b.Ac i).Bl j∧at0 (gt b.Ac i).Bl j<(gt b.Ac i).Am.length
theorem qbu {b:qg} (h:blockB b=true) {i:Nat} (hi:i<b.Ac.length):wireOk b i:=by
 unfold blockB at h
 rw [jf,qal] at h
 have:=h.2 i hi
 unfold wireB lenB at this
 simp only [jf,decide_eq_true_eq,beq_iff_eq] at this
 obtain ⟨⟨h1,h2⟩,h3,h4,h5,_,_,h6,h7⟩:=this
 refine ⟨h1,h2,by omega,by omega,fun j hj0 hj=>?_,?_,fun j hj=>?_⟩
 ·have:=qal.1 h5 j hj
  unfold treeB at this
  rw [show decide (j=0)=false by simp;omega] at this
  simp only [cond_false,qbh] at this
  omega
 ·rw [qji]
  unfold snkN at h6
  omega
 ·rw [qha (d:=0),qal] at h7
  have:=h7 j hj
  rw [qbh] at this
  unfold at0
  omega
theorem qmu {b:qg} (h:blockB b=true):b.Ac.length=b.Ab.Ak.length:=by
 unfold blockB at h
 simp only [jf,beq_iff_eq] at h
 omega
end Go.Fw


namespace Go.Fw
open Go
set_option maxRecDepth 100000
instance:Inhabited qu:=⟨⟨0,0,0,0⟩⟩
instance:Inhabited qO:=⟨⟨0,0⟩⟩
theorem qnT {α:Type} {m:Nat} {z:α} (h:m≤2147483648):mkS (m:Int) z=some (List.replicate m z):=by
 unfold mkS big
 rw [if_pos ⟨by omega,by omega⟩,jn]
theorem qsK {α:Type} [Inhabited α] {xs:List α} {a k:Nat} {y:α} (h:k ≠ a):gt (xs.set a y) k=gt xs k:=by
 unfold gt
 rw [jw,List.getElem?_set_ne (by omega),←jw]
theorem qp7 {α:Type} [Inhabited α] {xs:List α} {a:Nat} {y:α} (h:a<xs.length):gt (xs.set a y) a=y:=by
 rw [qfx (by rw [List.length_set];exact h),List.getElem_set_self]
end Go.Fw


namespace Go.Fw
open Go
set_option maxRecDepth 100000
def sumZ (f:Nat→Int):Nat→Int
 | 0=>0
 | n+1=>sumZ f n+f n
theorem qvp {f g:Nat→Int} {n:Nat} (h:∀ u,u<n→f u=g u):sumZ f n=sumZ g n:=by
 induction n with
 | zero=>rfl
 | succ n ih=>unfold sumZ;rw [ih (fun u hu=>h u (by omega)),h n (by omega)]
theorem qur {f g:Nat→Int} {a n:Nat} (ha:a<n) (h:∀ u,u<n→u ≠ a→f u=g u):sumZ f n=sumZ g n+(f a-g a):=by
 induction n with
 | zero=>omega
 | succ n ih =>
  unfold sumZ
  by_cases hn:a=n
  ·subst hn
   rw [qvp (fun u hu=>h u (by omega) (by omega))];omega
  ·rw [ih (by omega) (fun u hu=>h u (by omega)),h n (by omega) (by omega)];omega
theorem qyC {f:Nat→Int} {n:Nat} (h:∀ u,u<n→0≤f u):0≤sumZ f n:=by
 induction n with
 | zero=>exact jW _
 | succ n ih=>unfold sumZ;have:=ih (fun u hu=>h u (by omega));have:=h n (by omega);omega
theorem qtf {f:Nat→Int} {a n:Nat} (h:∀ u,u<n→0≤f u) (ha:a<n):f a≤sumZ f n:=by
 induction n with
 | zero=>omega
 | succ n ih =>
  unfold sumZ
  by_cases hn:a=n
  ·subst hn;have:=qyC (fun u (hu:u<a)=>h u (by omega));omega
  ·have:=ih (fun u hu=>h u (by omega)) (by omega);have:=h n (by omega);omega
theorem qyy {f:Nat→Int} {n:Nat} {c:Int} (h:∀ u,u<n→f u≤c):sumZ f n≤n*c:=by
 induction n with
 | zero=>simp [sumZ]
 | succ n ih =>
  unfold sumZ
  have:=ih (fun u hu=>h u (by omega))
  have:=h n (by omega)
  rw [Int.natCast_succ,Int.add_mul];omega
def pinCap (b:qg) (p:Tplace):Int:=bif decide (p.instance_<0) then 0 else (gt (cellAt b p.instance_).Bd p.pin.toNat).Bs
def capJ (b:qg) (j:Nat):Int:=pinCap b (gt (places b.Ab) j)
theorem qx5 {b:qg} (h:blockB b=true) {j:Nat} (hj:j<(places b.Ab).length) {n:Nat}:qgH n b.Ab b.Av (gt (places b.Ab) j)=some (capJ b j):=by
 have hd:=qat h
 unfold capJ pinCap
 rcases qlE hj with ⟨i,k,hi,hk,_,e⟩|⟨i,hi,_,e⟩
 ·rw [e]
  obtain ⟨⟨c0,c1⟩,hn,_⟩:=qhk hd hi
  unfold place1 cellAt
  simp only [qgH,show decide ((i:Int)<0)=false by simp,cond_false,qB hi,jd,qdY c0 c1,jn,qB (show k<(gt b.Av.As (gt b.Ab.Aa i).Bt.toNat).Bd.length by omega)]
 ·rw [e];rfl
theorem qxT {b:qg} (h:blockB b=true) {j:Nat} (hj:j<(places b.Ab).length):0≤capJ b j∧capJ b j≤500:=by
 have hd:=qat h
 unfold capJ pinCap
 rcases qlE hj with ⟨i,k,hi,hk,_,e⟩|⟨i,hi,_,e⟩
 ·rw [e]
  obtain ⟨⟨c0,c1⟩,hn,hc⟩:=qhk hd hi
  unfold place1 cellAt
  simp only [show decide ((i:Int)<0)=false by simp,cond_false,jn]
  have hp:=qja hc
  unfold pinsB at hp
  rw [jf,qal] at hp
  have:=hp.1 k (by omega)
  unfold pinB at this
  cases hl:decide (k+1=(gt b.Av.As (gt b.Ab.Aa i).Bt.toNat).Bd.length)
  ·rw [hl] at this
   simp only [cond_false,jf,qbh] at this
   exact this.2
  ·rw [hl] at this
   simp only [cond_true,jf,beq_iff_eq] at this
   omega
 ·rw [e]
  exact ⟨jW _,show (0:Int)≤500 by omega⟩
def skL (b:qg) (i:Nat):List Int:=sinksL b.Ab (i:Int) (places b.Ab).length
def addSink (b:qg) (w:qD) (sk:List Int) (t:List Int) (j:Nat):List Int:=setS t (at0 w.Bl j) (W64 (gt t (at0 w.Bl j).toNat+capJ b (at0 sk j).toNat))
def ldA (b:qg) (w:qD) (sk:List Int):Nat→List Int
 | 0=>w.Bs
 | j+1=>addSink b w sk (ldA b w sk j) j
def addUp (w:qD) (t:List Int) (j:Nat):List Int:=setS t (at0 w.Am j) (W64 (gt t (at0 w.Am j).toNat+gt t j))
def ldB (w:qD):Nat→List Int→List Int
 | 0,t=>t
 | j+1,t=>ldB w j (addUp w t (j+1))
def loadsL (b:qg) (i:Nat):List Int:=ldB (gt b.Ac i) ((gt b.Ac i).Am.length-1) (ldA b (gt b.Ac i) (skL b i) (skL b i).length)
theorem qo6 {b:qg} {w:qD} {sk:List Int} {j:Nat}:(ldA b w sk j).length=w.Bs.length:=by
 induction j with
 | zero=>rfl
 | succ j ih=>unfold ldA addSink;rw [qe7,ih]
theorem qyF {w:qD} {j:Nat} {t:List Int}:(ldB w j t).length=t.length:=by
 induction j generalizing t with
 | zero=>rfl
 | succ j ih=>unfold ldB addUp;rw [ih,qe7]
theorem qml {b:qg} (h:blockB b=true) {i:Nat} (hi:i<b.Ac.length):(loadsL b i).length=(gt b.Ac i).Am.length:=by
 unfold loadsL;rw [qyF,qo6,(qbu h hi).cap]
theorem qhv {b:qg} (h:blockB b=true) {i:Nat}:(skL b i).length≤78:=by
 have hl:=qbb (qY (qat h))
 unfold skL
 rw [qji]
 have:cntP (snkQ b.Ab (i:Int)) (places b.Ab).length≤(places b.Ab).length:=qgf
 omega
theorem qpw {b:qg} {i j:Nat} (hj:j<(skL b i).length):∃ y:Nat,y<(places b.Ab).length∧at0 (skL b i) j=(y:Int)∧snkQ b.Ab (i:Int) y=true:=by
 obtain ⟨y,h1,h2,h3⟩:=qwR hj
 exact ⟨y,h1,by have:=h2;rw [show (sinksL b.Ab (i:Int) (places b.Ab).length)=skL b i from rfl,qah hj] at this;exact Option.some.inj this,h3⟩
theorem qoN {b:qg} (h:blockB b=true) {i:Nat} (hi:i<b.Ac.length):Ev (fun n=>qdv n b (i:Int)) (loadsL b i):=by
 have hw:=qbu h hi
 have hs:=qY (qat h)
 have hlo:=hw.lo
 have hhi:=hw.hi
 have hcap:=hw.cap
 have hsm:=qhv h (i:=i)
 have e1:Ev (fun n=>qbm b (gt b.Ac i) (places b.Ab) (skL b i) n (gt b.Ac i).Bs 0) (ldA b (gt b.Ac i) (skL b i) (skL b i).length,((skL b i).length:Int)):=by
  refine loopF (Lf:=qbm b (gt b.Ac i) (places b.Ab) (skL b i)) (S:=ldA b (gt b.Ac i) (skL b i)) (len:=(skL b i).length) (fun n=>?_) (fun j hj X hX=>?_)
  ·simp only [qbm,ql (je _),cond_false]
  ·obtain ⟨y,hy,ey,_⟩:=qpw hj
   have hjs:j<(gt b.Ac i).Bl.length:=by rw [hw.snk];exact hj
   have hsn:=hw.sin j hjs
   have hln:=qo6 (b:=b) (w:=gt b.Ac i) (sk:=skL b i) (j:=j)
   simp only [qbm,qk hj,cond_true,qah hj,ey,jd,qah hjs,qdY hsn.1 (show at0 (gt b.Ac i).Bl j<((ldA b (gt b.Ac i) (skL b i) j).length:Int) by omega),qB hy,qx5 h hy,wS j]
   have:ldA b (gt b.Ac i) (skL b i) (j+1)=setS (ldA b (gt b.Ac i) (skL b i) j) (at0 (gt b.Ac i).Bl j) (W64 (gt (ldA b (gt b.Ac i) (skL b i) j) (at0 (gt b.Ac i).Bl j).toNat+capJ b y)):=by
    show addSink _ _ _ _ _=_
    unfold addSink
    rw [ey,jn]
   rw [this] at hX
   exact hX
 have e2:∀ j t,t.length=(gt b.Ac i).Am.length→j<(gt b.Ac i).Am.length→Ev (fun n=>qbl (gt b.Ac i) n t (j:Int)) (ldB (gt b.Ac i) j t,0):=by
  intro j
  induction j with
  | zero =>
   intro t _ _
   refine Ev.succ ?_
   show Ev (fun n=>qbl (gt b.Ac i) (n+1) t 0) _
   unfold qbl
   exact Ev.ff rfl .done
  | succ j ih =>
   intro t ht hj
   have hp:=hw.par (j+1) (by omega) hj
   refine Ev.succ ?_
   simp only [qbl,show decide (((j+1:Nat):Int) > 0)=true from decide_eq_true (by omega),cond_true,qah hj,jd,qdY hp.1 (show at0 (gt b.Ac i).Am (j+1)<(t.length:Int) by omega),qB (show j+1<t.length by omega),show ((j+1:Nat):Int)-1=(j:Int) by omega,qN (show -9223372036854775808≤(j:Int) by omega) (by omega)]
   exact ih _ (by rw [qe7];exact ht) (by omega)
 unfold qdv qia
 rw [qB hi]
 simp only [jd,qdb (show ([]:List Int).length+(gt b.Ac i).Bs.length≤2147483648 by simp;omega),List.nil_append]
 refine Ev.bind (qn2 hs) (Ev.bind (qsb hs) (Ev.bind e1 ?_))
 rw [qfi (show (gt b.Ac i).Bs.length≤9223372036854775807 by omega),show ((gt b.Ac i).Bs.length:Int)-1=(((gt b.Ac i).Am.length-1:Nat):Int) by omega]
 exact Ev.bind (e2 _ _ (by rw [qo6];exact hcap) (by omega)) .done
structure LdOk (t:List Int) (L:Nat) (S:Int):Prop where
 len:t.length=L
 nn:∀ k,k<L→0≤gt t k
 sum:sumZ (gt t) L≤S
theorem qmA {t:List Int} {a:Nat} {y:Int} {k:Nat} (ha:a<t.length):gt (setS t (a:Int) y) k=if k=a then y else gt t k:=by
 unfold setS
 rw [jn]
 by_cases h:k=a
 ·subst h;rw [if_pos rfl,qp7 ha]
 ·rw [if_neg h,qsK h]
theorem qzz {b:qg} (h:blockB b=true) {i:Nat} (hi:i<b.Ac.length) (hcp:∀ k,k<(gt b.Ac i).Bs.length→0≤gt (gt b.Ac i).Bs k∧gt (gt b.Ac i).Bs k≤500) :
  ∀ j,j≤(skL b i).length→LdOk (ldA b (gt b.Ac i) (skL b i) j) (gt b.Ac i).Am.length (4000+500*j):=by
 have hw:=qbu h hi
 have hhi:=hw.hi
 have hcap:=hw.cap
 have hsm:=qhv h (i:=i)
 intro j
 induction j with
 | zero =>
  intro _
  refine ⟨hcap,fun k hk=>(hcp k (by omega)).1,?_⟩
  have:=qyy (f:=gt (gt b.Ac i).Bs) (n:=(gt b.Ac i).Am.length) (c:=500) (fun u hu=>(hcp u (by omega)).2)
  show sumZ (gt (gt b.Ac i).Bs) _≤_
  omega
 | succ j ih =>
  intro hj
  obtain ⟨l1,n1,s1⟩:=ih (by omega)
  obtain ⟨y,hy,ey,_⟩:=qpw (show j<(skL b i).length by omega)
  have hc:=qxT h hy
  have hsn:=hw.sin j (by rw [hw.snk];exact (show j<(skL b i).length by omega))
  obtain ⟨a,ha⟩:∃ a:Nat,at0 (gt b.Ac i).Bl j=(a:Int):=⟨_,qeD hsn.1⟩
  rw [ha] at hsn
  have hal:a<(gt b.Ac i).Am.length:=by omega
  have hge:=qtf n1 hal
  have hn:=n1 a hal
  have e:ldA b (gt b.Ac i) (skL b i) (j+1)=setS (ldA b (gt b.Ac i) (skL b i) j) (a:Int) (gt (ldA b (gt b.Ac i) (skL b i) j) a+capJ b y):=by
   show addSink _ _ _ _ _=_
   unfold addSink
   rw [ey,ha,jn,jn,qN (by omega) (by omega)]
  rw [e]
  refine ⟨by rw [qe7];exact l1,fun k hk=>?_,?_⟩
  ·rw [qmA (by omega)]
   split
   ·omega
   ·exact n1 k hk
  ·rw [qur (g:=gt (ldA b (gt b.Ac i) (skL b i) j)) hal (fun u _ hne=>by rw [qmA (by omega),if_neg hne]),qmA (by omega),if_pos rfl]
   omega
theorem qzt {b:qg} (h:blockB b=true) {i:Nat} (hi:i<b.Ac.length) {S:Int} (hS:S≤1000000000):∀ j t,j<(gt b.Ac i).Am.length→t.length=(gt b.Ac i).Am.length→(∀ k,k<t.length→0≤gt t k∧gt t k≤S)→sumZ (gt t) (j+1)≤S →
  ∀ k,k<t.length→0≤gt (ldB (gt b.Ac i) j t) k∧gt (ldB (gt b.Ac i) j t) k≤S:=by
 have hw:=qbu h hi
 intro j
 induction j with
 | zero=>intro t _ _ hk _;exact hk
 | succ j ih =>
  intro t hj ht hk hsum
  have hp:=hw.par (j+1) (by omega) hj
  obtain ⟨a,ha⟩:∃ a:Nat,at0 (gt b.Ac i).Am (j+1)=(a:Int):=⟨_,qeD hp.1⟩
  rw [ha] at hp
  have h1:=hk a (by omega)
  have h2:=hk (j+1) (by omega)
  have e:addUp (gt b.Ac i) t (j+1)=setS t (a:Int) (gt t a+gt t (j+1)):=by
   unfold addUp
   rw [ha,jn,qN (by omega) (by omega)]
  have hs2:sumZ (gt (setS t (a:Int) (gt t a+gt t (j+1)))) (j+1)≤S:=by
   rw [qur (g:=gt t) (a:=a) (by omega) (fun u _ hne=>by rw [qmA (by omega),if_neg hne]),qmA (by omega),if_pos rfl]
   have:sumZ (gt t) (j+1+1)=sumZ (gt t) (j+1)+gt t (j+1):=rfl
   omega
  unfold ldB
  rw [e]
  have:=ih (setS t (a:Int) (gt t a+gt t (j+1))) (by omega) (by rw [qe7];exact ht) (fun k hk'=>by
   rw [qe7] at hk'
   have hnn:∀ u,u<j+1→0≤gt (setS t (a:Int) (gt t a+gt t (j+1))) u:=fun u hu=>by
    rw [qmA (by omega)]
    split
    ·omega
    ·exact (hk u (by omega)).1
   have hge:=qtf hnn (show a<j+1 by omega)
   rw [qmA (by omega)] at hge ⊢
   rw [if_pos rfl] at hge
   split
   ·omega
   ·exact hk k hk') hs2
  rw [qe7] at this
  exact this
theorem qp8 {b:qg} (h:blockB b=true) {i:Nat} (hi:i<b.Ac.length):(∀ k,k<(gt b.Ac i).Bs.length→0≤gt (gt b.Ac i).Bs k∧gt (gt b.Ac i).Bs k≤500)∧(∀ k,k<(gt b.Ac i).Bw.length→0≤at0 (gt b.Ac i).Bw k∧at0 (gt b.Ac i).Bw k≤1000):=by
 unfold blockB at h
 rw [jf,qal] at h
 have:=h.2 i hi
 unfold wireB lenB at this
 simp only [jf,decide_eq_true_eq,beq_iff_eq] at this
 obtain ⟨_,_,_,_,hr,hc,_⟩:=this
 rw [qha (d:=0),qal] at hr hc
 exact ⟨fun k hk=>by have:=hc k hk;rw [qbh] at this;exact this,fun k hk=>by have:=hr k hk;rw [qbh] at this;exact this⟩
theorem qvj {b:qg} (h:blockB b=true) {i:Nat} (hi:i<b.Ac.length) {k:Nat} (hk:k<(gt b.Ac i).Am.length):0≤gt (loadsL b i) k∧gt (loadsL b i) k≤43000:=by
 have hw:=qbu h hi
 have hlo:=hw.lo
 have hsm:=qhv h (i:=i)
 obtain ⟨l1,n1,s1⟩:=qzz h hi (qp8 h hi).1 (skL b i).length (je _)
 have:=qzt h hi (S:=43000) (by omega) ((gt b.Ac i).Am.length-1) (ldA b (gt b.Ac i) (skL b i) (skL b i).length) (by omega) l1 (fun k hk=>by
  have h1:=n1 k (by omega)
  have h2:=qtf n1 (show k<(gt b.Ac i).Am.length by omega)
  exact ⟨h1,by omega⟩) (by rw [show (gt b.Ac i).Am.length-1+1=(gt b.Ac i).Am.length by omega];omega) k (by omega)
 exact this
def dlL (w:qD) (ld:List Int):Nat→List Int
 | 0=>[0]
 | k+1=>dlL w ld k++[W64 (gt (dlL w ld k) (at0 w.Am (k+1)).toNat+W64 (at0 w.Bw (k+1)*gt ld (k+1)))]
theorem qph {w:qD} {ld:List Int} {k:Nat}:(dlL w ld k).length=k+1:=by
 induction k with
 | zero=>rfl
 | succ k ih=>unfold dlL;rw [jh,ih];rfl
def delaysL (b:qg) (i:Nat):List Int:=dlL (gt b.Ac i) (loadsL b i) ((gt b.Ac i).Am.length-1)
def exactL (b:qg) (i:Nat):List Int:=(gt b.Ac i).Bl.map fun s=>gt (delaysL b i) s.toNat
theorem qny {b:qg} (h:blockB b=true) {i:Nat} (hi:i<b.Ac.length):(delaysL b i).length=(gt b.Ac i).Am.length:=by
 unfold delaysL
 rw [qph]
 have:=(qbu h hi).lo
 omega
theorem qyw {w:qD} {ld:List Int} {k m:Nat} (hm:k+1<m) (hp:at0 w.Am (k+1)<((k+1:Nat):Int)) (_:0≤at0 w.Am (k+1)) :
  setS (dlL w ld k++List.replicate (m-(k+1)) 0) ((k+1:Nat):Int) (W64 (gt (dlL w ld k++List.replicate (m-(k+1)) 0) (at0 w.Am (k+1)).toNat+W64 (at0 w.Bw (k+1)*gt ld (k+1))))=dlL w ld (k+1)++List.replicate (m-(k+1+1)) 0:=by
 have hlen:=qph (w:=w) (ld:=ld) (k:=k)
 have e1:gt (dlL w ld k++List.replicate (m-(k+1)) 0) (at0 w.Am (k+1)).toNat=gt (dlL w ld k) (at0 w.Am (k+1)).toNat:=by
  rw [ql3,if_pos (by omega)]
 rw [e1]
 unfold setS
 rw [jn,List.set_append,if_neg (by omega),hlen,Nat.sub_self,show m-(k+1)=(m-(k+1+1))+1 by omega,List.replicate_succ,List.set_cons_zero]
 show _=(dlL w ld k++[_])++_
 rw [jq]
 rfl
theorem qsl {b:qg} (h:blockB b=true) {i:Nat} (hi:i<b.Ac.length):Ev (fun n=>qeS n b (i:Int)) (delaysL b i):=by
 have hw:=qbu h hi
 have hlo:=hw.lo
 have hhi:=hw.hi
 have hres:=hw.res
 have l1:=qml h hi
 have hmk:mkS ((loadsL b i).length:Int) (0:Int)=some (List.replicate (loadsL b i).length 0):=qiU (by omega)
 have main:∀ d k,k+1+d=(gt b.Ac i).Am.length→Ev (fun n=>qbA (gt b.Ac i) (loadsL b i) (List.replicate (loadsL b i).length 0) n (dlL (gt b.Ac i) (loadsL b i) k++List.replicate ((gt b.Ac i).Am.length-(k+1)) 0) ((k+1:Nat):Int)) (delaysL b i,((loadsL b i).length:Int)):=by
  intro d
  induction d with
  | zero =>
   intro k hk
   refine Ev.succ ?_
   simp only [qbA,jQ,ql (show (loadsL b i).length≤k+1 by omega),cond_false]
   refine Ev.now ?_
   rw [show (gt b.Ac i).Am.length-(k+1)=0 by omega,List.replicate_zero,jX,l1,←hk]
   unfold delaysL
   rw [←hk]
   rfl
  | succ d ih =>
   intro k hk
   have hp:=hw.par (k+1) (by omega) (by omega)
   have hlen:=qph (w:=gt b.Ac i) (ld:=loadsL b i) (k:=k)
   have hll:(dlL (gt b.Ac i) (loadsL b i) k++List.replicate ((gt b.Ac i).Am.length-(k+1)) 0).length=(gt b.Ac i).Am.length:=by rw [jh,jQ,hlen];omega
   refine Ev.succ ?_
   simp only [qbA,jQ,qk (show k+1<(loadsL b i).length by omega),cond_true,qah (show k+1<(gt b.Ac i).Am.length by omega),jd,qdY hp.1 (show at0 (gt b.Ac i).Am (k+1)<((dlL (gt b.Ac i) (loadsL b i) k++List.replicate ((gt b.Ac i).Am.length-(k+1)) 0).length:Int) by omega),
    qah (show k+1<(gt b.Ac i).Bw.length by omega),qB (show k+1<(loadsL b i).length by omega),qB (show k+1<(dlL (gt b.Ac i) (loadsL b i) k++List.replicate ((gt b.Ac i).Am.length-(k+1)) 0).length by omega),qde (show k+1<9223372036854775807 by omega)]
   rw [qyw (by omega) hp.2 hp.1]
   exact ih (k+1) (by omega)
 unfold qeS
 rw [qB hi]
 simp only [jd]
 refine Ev.bind (qoN h hi) ?_
 rw [hmk]
 simp only [jd]
 have:=main ((gt b.Ac i).Am.length-1) 0 (by omega)
 have e0:dlL (gt b.Ac i) (loadsL b i) 0++List.replicate ((gt b.Ac i).Am.length-(0+1)) 0=List.replicate (loadsL b i).length 0:=by
  rw [l1]
  show [(0:Int)]++_=_
  rw [show (gt b.Ac i).Am.length=((gt b.Ac i).Am.length-(0+1))+1 by omega,List.replicate_succ]
  rfl
 rw [e0] at this
 exact Ev.bind this .done
theorem qrD {b:qg} (h:blockB b=true) {i:Nat} (hi:i<b.Ac.length):Ev (fun n=>qec n b (i:Int)) (exactL b i):=by
 have hw:=qbu h hi
 have hsl:(gt b.Ac i).Bl.length≤78:=by rw [hw.snk];exact qhv h
 have hdl:=qny h hi
 have e3:Ev (fun n=>qa3 (delaysL b i) (gt b.Ac i) n ([]:List Int) 0) (exactL b i,((gt b.Ac i).Bl.length:Int)):=by
  refine loopF (Lf:=qa3 (delaysL b i) (gt b.Ac i)) (S:=fun j=>((gt b.Ac i).Bl.take j).map fun s=>gt (delaysL b i) s.toNat) (len:=(gt b.Ac i).Bl.length) (fun n=>?_) (fun j hj X hX=>?_)
  ·simp only [qa3,ql (je _),cond_false,jD];rfl
  ·have hsn:=hw.sin j hj
   simp only [qa3,qk hj,cond_true,qah hj,jd,qdY hsn.1 (show at0 (gt b.Ac i).Bl j<((delaysL b i).length:Int) by omega),wS j]
   rw [qdb (by rw [jz,jI,js];omega)]
   have:((gt b.Ac i).Bl.take j).map (fun s=>gt (delaysL b i) s.toNat)++[gt (delaysL b i) (at0 (gt b.Ac i).Bl j).toNat]=((gt b.Ac i).Bl.take (j+1)).map fun s=>gt (delaysL b i) s.toNat:=by
    rw [jv hj,jL,qkL hj];rfl
   rw [this]
   exact hX
 unfold qec
 refine Ev.bind (qsl h hi) ?_
 rw [qB hi]
 simp only [jd]
 exact Ev.bind e3 .done
theorem qt5 {b:qg} (h:blockB b=true) {i:Nat} (hi:i<b.Ac.length):∀ k,k<(gt b.Ac i).Am.length→∀ m,m≤k→0≤gt (dlL (gt b.Ac i) (loadsL b i) k) m∧gt (dlL (gt b.Ac i) (loadsL b i) k) m≤43000000*k:=by
 have hw:=qbu h hi
 have hhi:=hw.hi
 have hres:=hw.res
 intro k
 induction k with
 | zero =>
  intro _ m hm
  have hm0:m=0:=by omega
  subst hm0
  exact ⟨jW _,jW _⟩
 | succ k ih =>
  intro hk m hm
  have hlen:=qph (w:=gt b.Ac i) (ld:=loadsL b i) (k:=k)
  unfold dlL
  rw [ql3]
  split
  ·have:=ih (by omega) m (by omega);omega
  ·have hm1:m=k+1:=by omega
   subst hm1
   rw [hlen,Nat.sub_self]
   show 0≤W64 _∧W64 _≤_
   have hp:=hw.par (k+1) (by omega) hk
   obtain ⟨a,ha⟩:∃ a:Nat,at0 (gt b.Ac i).Am (k+1)=(a:Int):=⟨_,qeD hp.1⟩
   rw [ha] at hp ⊢
   rw [jn]
   have h1:=ih (by omega) a (by omega)
   have h2:=(qp8 h hi).2 (k+1) (by omega)
   have h3:=qvj h hi hk
   have h4:at0 (gt b.Ac i).Bw (k+1)*gt (loadsL b i) (k+1)≤1000*43000:=jV h2.2 h3.2 h3.1 (by omega)
   have h5:0≤at0 (gt b.Ac i).Bw (k+1)*gt (loadsL b i) (k+1):=jS h2.1 h3.1
   rw [wO (at0 (gt b.Ac i).Bw (k+1)*gt (loadsL b i) (k+1)),qN (by omega) (by omega)]
   omega
theorem qrS {b:qg} (h:blockB b=true) {i:Nat} (hi:i<b.Ac.length) {j:Nat} (hj:j<(gt b.Ac i).Bl.length):0≤gt (exactL b i) j∧gt (exactL b i) j≤344000000:=by
 have hw:=qbu h hi
 have hhi:=hw.hi
 have hsn:=hw.sin j hj
 have e:gt (exactL b i) j=gt (delaysL b i) (at0 (gt b.Ac i).Bl j).toNat:=by
  unfold exactL
  rw [qfx (by rw [jz];exact hj),List.getElem_map,qkL hj]
 rw [e]
 have:=qt5 h hi ((gt b.Ac i).Am.length-1) (by omega) (at0 (gt b.Ac i).Bl j).toNat (by omega)
 show 0≤gt (dlL _ _ _) _∧gt (dlL _ _ _) _≤_
 omega
end Go.Fw


namespace Go.Fw
open Go
set_option maxRecDepth 100000
def pre {α:Type} (f:Nat→α) (j:Nat):List α:=(List.range j).map f
theorem qn0 {α:Type} {f:Nat→α} {j:Nat}:(pre f j).length=j:=by simp [pre]
theorem qxo {α:Type} {f:Nat→α} {j:Nat}:pre f j++[f j]=pre f (j+1):=by unfold pre;rw [List.range_succ,jL];rfl
theorem qo1 {α:Type} {f:Nat→α} {j:Nat} (h:j≤1048576):appS (pre f j) [f j]=some (pre f (j+1)):=by
 rw [qdb (by rw [qn0,js];omega),qxo]
theorem qzY {α:Type} [Inhabited α] {f:Nat→α} {n j:Nat} (h:j<n):gt (pre f n) j=f j:=qrr h
theorem qiz {α:Type} [Inhabited α] {f:Nat→α} {n j:Nat} (h:j<n):idx (pre f n) (j:Int)=some (f j):=by rw [qB (by rw [qn0];exact h),qzY h]
theorem qhz {α:Type} {f g:Nat→α} {n:Nat} (h:∀ k,k<n→f k=g k):pre f n=pre g n:=List.map_congr_left fun k hk=>h k (List.mem_range.1 hk)
theorem qo0 {α:Type} {f:Nat→α} {n k:Nat} {v:α}:setS (pre f n) (k:Int) v=pre (fun i=>if i=k then v else f i) n:=by
 unfold setS pre
 rw [jn]
 refine jY (by simp) fun i h1 h2=>?_
 rw [List.getElem_set]
 by_cases h:k=i
 ·subst h;simp
 ·rw [if_neg h];simp [show ¬ i=k from fun e=>h e.symm]
def fm {α:Type} (f:Nat→List α) (j:Nat):List α:=(List.range j).flatMap f
theorem qky {α:Type} {f:Nat→List α} {j:Nat}:fm f (j+1)=fm f j++f j:=by unfold fm;rw [List.range_succ,List.flatMap_append];simp
theorem qps {α:Type} {f:Nat→List α} {j c:Nat} (h:∀ i,i<j→(f i).length≤c):(fm f j).length≤c*j:=by
 induction j with
 | zero=>exact je _
 | succ j ih=>rw [qky,jh];have:=ih (fun i hi=>h i (by omega));have:=h j (by omega);rw [Nat.mul_succ];omega
def transL (a:qG):List qO :=
 bif (a.Bf==2) then [⟨0,0⟩,⟨0,1⟩] else bif (a.Bf==3) then [⟨1,0⟩,⟨1,1⟩] else bif (a.Bf != 1) then [] else
 bif (a.Bp==1) then [⟨0,0⟩,⟨1,1⟩] else bif (a.Bp==2) then [⟨0,1⟩,⟨1,0⟩] else [⟨0,0⟩,⟨0,1⟩,⟨1,0⟩,⟨1,1⟩]
theorem qwt {a:qG} {n:Nat}:qfb n a=some (transL a):=by
 unfold qfb transL
 cases (a.Bf==2)
 ·cases (a.Bf==3)
  ·cases (a.Bf != 1)
   ·cases (a.Bp==1)
    ·cases (a.Bp==2)<;>rfl
    ·rfl
   ·rfl
  ·rfl
 ·rfl
theorem qrA {a:qG}:(transL a).length≤4:=by
 unfold transL
 cases (a.Bf==2)
 ·cases (a.Bf==3)
  ·cases (a.Bf != 1)
   ·cases (a.Bp==1)
    ·cases (a.Bp==2)<;>simp
    ·simp
   ·simp
  ·simp
 ·simp
def b01 (x:Int):Prop:=x=0∨x=1
theorem qsu {a:qG} {t:qO} (h:t ∈ transL a):b01 t.e0∧b01 t.e1:=by
 have main:∀ t ∈ [(⟨0,0⟩:qO),⟨0,1⟩,⟨1,0⟩,⟨1,1⟩],b01 t.e0∧b01 t.e1:=by
  intro t ht
  simp only [jU,jO,or_false] at ht
  rcases ht with rfl|rfl|rfl|rfl<;>simp [b01]
 refine main t ?_
 unfold transL at h
 revert h
 cases (a.Bf==2)
 ·cases (a.Bf==3)
  ·cases (a.Bf != 1)
   ·cases (a.Bp==1)
    ·cases (a.Bp==2)
     ·exact fun h=>h
     ·intro h;simp at h;rcases h with rfl|rfl<;>simp
    ·intro h;simp at h;rcases h with rfl|rfl<;>simp
   ·intro h;simp at h
  ·intro h;simp at h;rcases h with rfl|rfl<;>simp
 ·intro h;simp at h;rcases h with rfl|rfl<;>simp
def al1 (first:Int) (k:Nat) (a:qG) (t:qO):qu:=⟨2*(first+a.Bk)+t.e0,2*(first+a.To)+t.e1,1,(k:Int)⟩
def arcLs (first:Int) (k:Nat) (a:qG):List qu:=(transL a).map (al1 first k a)
def cellLs (c:qw) (first:Int) (j:Nat):List qu:=fm (fun k=>arcLs first k (gt c.Au k)) j
def instLs (b:qg) (j:Nat):List qu:=fm (fun i=>cellLs (cellAt b (i:Int)) (off b.Ab i:Int) (cellAt b (i:Int)).Au.length) j
theorem qpJ {first:Int} {k:Nat} {a:qG}:(arcLs first k a).length≤4:=by unfold arcLs;rw [jz];exact qrA
theorem qtJ {b:qg} (h:blockB b=true) {i:Nat} (hi:i<b.Ab.Aa.length):Ev (fun n=>qfm n b (gt b.Ab.Aa i) (off b.Ab i:Int)) (cellLs (cellAt b (i:Int)) (off b.Ab i:Int) (cellAt b (i:Int)).Au.length):=by
 have hd:=qat h
 have hs:=qY hd
 obtain ⟨⟨c0,c1⟩,hnl,hcb⟩:=qhk hd hi
 have ha:=qop hcb
 have hpb:=(qhb (qja hcb)).1
 have hoff:off b.Ab i≤78:=by
  have:=qbb hs
  rw [qg7] at this
  have:=qvF (d:=b.Ab) (show i≤b.Ab.Aa.length by omega)
  omega
 show Ev _ (cellLs (gt b.Av.As (gt b.Ab.Aa i).Bt.toNat) (off b.Ab i:Int) (gt b.Av.As (gt b.Ab.Aa i).Bt.toNat).Au.length)
 generalize hc:gt b.Av.As (gt b.Ab.Aa i).Bt.toNat=c at hnl hcb ha hpb ⊢
 have hL:Ev (fun n=>qbr (off b.Ab i:Int) c n ([]:List qu) 0) (cellLs c (off b.Ab i:Int) c.Au.length,(c.Au.length:Int)):=by
  refine loopF (Lf:=qbr (off b.Ab i:Int) c) (S:=cellLs c (off b.Ab i:Int)) (len:=c.Au.length) (fun n=>?_) (fun j hj X hX=>?_)
  ·simp only [qbr,ql (je _),cond_false]
  ·have hk:=qnE hcb hj
   have hcl:(cellLs c (off b.Ab i:Int) j).length≤4*j:=qps fun _ _=>qpJ
   simp only [qbr,qk hj,cond_true,qB hj,jd,qwt,wS j]
   have hL2:Ev (fun n=>qbo (off b.Ab i:Int) (j:Int) (gt c.Au j) (transL (gt c.Au j)) n (cellLs c (off b.Ab i:Int) j) 0) (cellLs c (off b.Ab i:Int) (j+1),((transL (gt c.Au j)).length:Int)):=by
    have h4:=qrA (a:=gt c.Au j)
    have:=loopF (Lf:=qbo (off b.Ab i:Int) (j:Int) (gt c.Au j) (transL (gt c.Au j))) (S:=fun k=>cellLs c (off b.Ab i:Int) j++((transL (gt c.Au j)).take k).map (al1 (off b.Ab i:Int) j (gt c.Au j))) (len:=(transL (gt c.Au j)).length) (fin:=(cellLs c (off b.Ab i:Int) (j+1),((transL (gt c.Au j)).length:Int))) (fun n=>by
      simp only [qbo,ql (je _),cond_false,jD]
      show some (cellLs c _ j++arcLs _ j _,_)=some (fm _ (j+1),_)
      rw [qky];rfl)
     (fun k hk2 X hX=>by
      have ht:=qsu (a:=gt c.Au j) (t:=gt (transL (gt c.Au j)) k) (by rw [qfx hk2];exact jp hk2)
      have e0:W64 (W64 (2*W64 ((off b.Ab i:Int)+(gt c.Au j).Bk))+(gt (transL (gt c.Au j)) k).e0)=2*((off b.Ab i:Int)+(gt c.Au j).Bk)+(gt (transL (gt c.Au j)) k).e0:=by
       rcases ht.1 with e|e<;>rw [e,wO ((off b.Ab i:Int)+(gt c.Au j).Bk),qN (x:=2*((off b.Ab i:Int)+(gt c.Au j).Bk)) (by omega) (by omega),qN (by omega) (by omega)]
      have e1:W64 (W64 (2*W64 ((off b.Ab i:Int)+(gt c.Au j).To))+(gt (transL (gt c.Au j)) k).e1)=2*((off b.Ab i:Int)+(gt c.Au j).To)+(gt (transL (gt c.Au j)) k).e1:=by
       rcases ht.2 with e|e<;>rw [e,wO ((off b.Ab i:Int)+(gt c.Au j).To),qN (x:=2*((off b.Ab i:Int)+(gt c.Au j).To)) (by omega) (by omega),qN (by omega) (by omega)]
      simp only [qbo,qk hk2,cond_true,qB hk2,jd,e0,e1,wS k]
      rw [qdb (by rw [jh,jz,jI,js];omega),jq]
      have:((transL (gt c.Au j)).take k).map (al1 (off b.Ab i:Int) j (gt c.Au j))++[al1 (off b.Ab i:Int) j (gt c.Au j) (gt (transL (gt c.Au j)) k)]=((transL (gt c.Au j)).take (k+1)).map (al1 (off b.Ab i:Int) j (gt c.Au j)):=qgb hk2
      have this2:((transL (gt c.Au j)).take k).map (al1 (off b.Ab i:Int) j (gt c.Au j))++[(⟨2*((off b.Ab i:Int)+(gt c.Au j).Bk)+(gt (transL (gt c.Au j)) k).e0,2*((off b.Ab i:Int)+(gt c.Au j).To)+(gt (transL (gt c.Au j)) k).e1,1,(j:Int)⟩:qu)]=((transL (gt c.Au j)).take (k+1)).map (al1 (off b.Ab i:Int) j (gt c.Au j)):=this
      rw [this2]
      exact hX)
    simpa using this
   exact Ev.bind hL2 hX
 unfold qfm
 rw [qdY c0 c1,hc]
 simp only [jd]
 exact Ev.bind hL .done
def dvN (d:qd) (k:Nat):Nat:=((List.range (places d).length).find? fun j=>drvQ d (k:Int) j).getD 0
theorem qjW {l:qn} {d:qd} (h:designB l d=true) {k:Nat} (hk:k<d.Ak.length):dvN d k<(places d).length∧drvQ d (k:Int) (dvN d k)=true:=by
 obtain ⟨j,hj,hn,hdr⟩:=qzS h (k:=(k:Int)) (by omega) (by omega)
 unfold dvN
 cases hf:(List.range (places d).length).find? fun j=>drvQ d (k:Int) j with
 | none =>
  have:=List.find?_eq_none.1 hf j (List.mem_range.2 hj)
  exact absurd (by unfold drvQ;rw [hn,hdr];simp) this
 | some i=>exact ⟨List.mem_range.1 (List.mem_of_find?_eq_some hf),by have:=List.find?_some hf;exact this⟩
theorem qoF {d:qd} {k:Int} {j:Nat}:drvQ d k j=true↔(gt (places d) j).net=k∧(gt (places d) j).drives=true:=by unfold drvQ;simp
theorem qxP {l:qn} {d:qd} (h:designB l d=true) {k:Nat} (hk:k<d.Ak.length) {j:Nat} (hj:j<(places d).length) (hn:(gt (places d) j).net=(k:Int)) (hd:(gt (places d) j).drives=true):dvN d k=j:=by
 obtain ⟨h1,h2⟩:=qjW h hk
 obtain ⟨h3,h4⟩:=qoF.1 h2
 exact qul h h1 hj (by rw [h3,hn]) h4 hd
def wl1 (dv:Nat) (s:Int) (k:Nat):List qu:=[⟨2*(dv:Int),2*s,2,(k:Int)⟩,⟨2*(dv:Int)+1,2*s+1,2,(k:Int)⟩]
def wlN (b:qg) (i j:Nat):List qu:=fm (fun k=>wl1 (dvN b.Ab i) (at0 (skL b i) k) k) j
def wireLs (b:qg) (j:Nat):List qu:=fm (fun i=>wlN b i (skL b i).length) j
def linksL (b:qg):List qu:=instLs b b.Ab.Aa.length++wireLs b b.Ac.length
def load0 (b:qg) (i:Nat):Int:=gt (loadsL b i) 0
def viewE (b:qg) (ex:List Int):Tview:=⟨b,places b.Ab,linksL b,pre (load0 b) b.Ac.length,pre (exactL b) b.Ac.length,ex⟩
def viewV (b:qg):Tview:=viewE b []
theorem qjh {b:qg} (h:blockB b=true) {j:Nat} (hj:j≤b.Ab.Aa.length):(instLs b j).length≤32*j:=by
 refine qps fun i hi=>?_
 obtain ⟨_,_,hcb⟩:=qhk (qat h) (show i<b.Ab.Aa.length by omega)
 have ha:=qop hcb
 have:(cellLs (cellAt b (i:Int)) (off b.Ab i:Int) (cellAt b (i:Int)).Au.length).length≤4*(cellAt b (i:Int)).Au.length:=qps fun _ _=>qpJ
 have e:(cellAt b (i:Int)).Au.length≤8:=ha
 omega
theorem qtd {b:qg} {i j:Nat}:(wlN b i j).length≤2*j:=qps fun _ _=>je _
theorem qom {b:qg} (h:blockB b=true) {j:Nat}:(wireLs b j).length≤156*j:=by
 refine qps fun i _=>?_
 have:=qtd (b:=b) (i:=i) (j:=(skL b i).length)
 have:=qhv h (i:=i)
 omega
theorem qgX {b:qg} (h:blockB b=true):(linksL b).length≤10000:=by
 have hs:=qY (qat h)
 have h1:=hs.ni
 have h2:=hs.nn
 have h3:=qmu h
 have h4:=qjh h (je _)
 have h5:=qom h (j:=b.Ac.length)
 unfold linksL
 rw [jh]
 omega
theorem qva {b:qg} (h:blockB b=true):Ev (fun n=>qkq n b) (some (viewV b)):=by
 have hd:=qat h
 have hs:=qY hd
 have hl:=qbb hs
 have hni:=hs.ni
 have hnn:=hs.nn
 have hwl:=qmu h
 have e1:Ev (fun n=>qdW b n ([]:List qu) 0 0) (instLs b b.Ab.Aa.length,(off b.Ab b.Ab.Aa.length:Int),(b.Ab.Aa.length:Int)):=by
  have:=loopF (τ:=List qu × Int) (Lf:=fun n t j=>qdW b n t.1 t.2 j) (S:=fun j=>(instLs b j,(off b.Ab j:Int))) (len:=b.Ab.Aa.length) (fin:=(instLs b b.Ab.Aa.length,(off b.Ab b.Ab.Aa.length:Int),(b.Ab.Aa.length:Int))) (fun n=>by simp only [qdW,ql (je _),cond_false])
   (fun j hj X hX=>by
    have hil:=qjh h (show j≤b.Ab.Aa.length by omega)
    have hil1:=qjh h (show j+1≤b.Ab.Aa.length by omega)
    have hoff:=qlc (d:=b.Ab) (i:=j)
    have hof:off b.Ab (j+1)≤78:=by
     rw [qg7] at hl
     have:=qvF (d:=b.Ab) (show j+1≤b.Ab.Aa.length by omega)
     omega
    simp only [qdW,qk hj,cond_true,qB hj,jd,qbs,wS j]
    refine Ev.bind (qtJ h hj) ?_
    have e:instLs b j++cellLs (cellAt b (j:Int)) (off b.Ab j:Int) (cellAt b (j:Int)).Au.length=instLs b (j+1):=qky.symm
    rw [qdb (by rw [←jh,e];omega),e,qN (by omega) (by omega),show (off b.Ab j:Int)+((gt b.Ab.Aa j).Ak.length:Int)=((off b.Ab (j+1):Nat):Int) by omega]
    exact hX)
  exact this
 have hm1:mkS (b.Ac.length:Int) (0:Int)=some (vecI (fun _=>0) b.Ac.length):=qsR (by omega)
 have hm2:mkS (b.Ac.length:Int) ([]:List Int)=some (pre (fun _=>[]) b.Ac.length):=by
  rw [qnT (by omega)]
  congr 1
  refine jY (by simp [pre]) fun i h1 h2=>?_
  simp [pre]
 have e2:Ev (fun n=>qc7 (places b.Ab) n (pre (fun _=>[]) b.Ac.length) (vecI (fun _=>0) b.Ac.length) 0) (pre (fun i=>skL b i) b.Ac.length,vecI (fun k=>(dvN b.Ab k:Int)) b.Ac.length,((places b.Ab).length:Int)):=by
  have hdv:∀ k,k<b.Ac.length→dvN b.Ab k<(places b.Ab).length:=fun k hk=>(qjW hd (by omega)).1
  have:=loopF (τ:=List (List Int) × List Int) (Lf:=fun n t j=>qc7 (places b.Ab) n t.1 t.2 j) (S:=fun j=>(pre (fun i=>sinksL b.Ab (i:Int) j) b.Ac.length,vecI (fun k=>if dvN b.Ab k<j then (dvN b.Ab k:Int) else 0) b.Ac.length)) (len:=(places b.Ab).length)
   (fin:=(pre (fun i=>skL b i) b.Ac.length,vecI (fun k=>(dvN b.Ab k:Int)) b.Ac.length,((places b.Ab).length:Int))) (fun n=>by
    simp only [qc7,ql (je _),cond_false]
    rw [qfr (g:=fun k=>(dvN b.Ab k:Int)) (fun k hk=>if_pos (hdv k hk))]
    rfl)
   (fun j hj X hX=>by
    obtain ⟨n0,n1⟩:=qmH hd hj
    obtain ⟨k0,hk0⟩:∃ k0:Nat,(gt (places b.Ab) j).net=(k0:Int):=⟨_,qeD n0⟩
    have hkl:k0<b.Ac.length:=by omega
    simp only [qc7,qk hj,cond_true,qB hj,jd,hk0,wS j,qnI hkl,qiz (f:=fun i=>sinksL b.Ab (i:Int) j) hkl]
    cases hdr:(gt (places b.Ab) j).drives
    ·have e5:pre (fun i=>sinksL b.Ab (i:Int) (j+1)) b.Ac.length=setS (pre (fun i=>sinksL b.Ab (i:Int) j) b.Ac.length) (k0:Int) (sinksL b.Ab (k0:Int) j++[(j:Int)]):=by
      rw [qo0]
      refine qhz fun k hk=>?_
      rw [qjO]
      unfold snkQ
      rw [hk0,hdr]
      by_cases hkk:k=k0
      ·subst hkk;rw [if_pos rfl];simp
      ·rw [if_neg hkk,show (((k0:Int)==(k:Int))&&!false)=false by simp;omega];simp
     have e6:vecI (fun k=>if dvN b.Ab k<j+1 then (dvN b.Ab k:Int) else 0) b.Ac.length=vecI (fun k=>if dvN b.Ab k<j then (dvN b.Ab k:Int) else 0) b.Ac.length:=by
      refine qfr fun k hk=>?_
      have hne:dvN b.Ab k ≠ j:=fun e=>by
       have:=(qoF.1 (qjW hd (k:=k) (by omega)).2).2
       rw [e,hdr] at this;cases this
      by_cases h1:dvN b.Ab k<j
      ·rw [if_pos h1,if_pos (by omega)]
      ·rw [if_neg h1,if_neg (by omega)]
     rw [e5,e6] at hX
     simp only [cond_false]
     have hsl:(sinksL b.Ab (k0:Int) j).length≤j:=by rw [qji];exact qgf
     rw [qdb (by rw [js];omega)]
     exact hX
    ·have e5:pre (fun i=>sinksL b.Ab (i:Int) (j+1)) b.Ac.length=pre (fun i=>sinksL b.Ab (i:Int) j) b.Ac.length:=by
      refine qhz fun k hk=>?_
      rw [qjO]
      unfold snkQ
      rw [hdr];simp
     have hj0:=qxP hd (show k0<b.Ab.Ak.length by omega) hj hk0 hdr
     have e6:vecI (fun k=>if dvN b.Ab k<j+1 then (dvN b.Ab k:Int) else 0) b.Ac.length=setS (vecI (fun k=>if dvN b.Ab k<j then (dvN b.Ab k:Int) else 0) b.Ac.length) (k0:Int) (j:Int):=by
      rw [qq3]
      refine qfr fun k hk=>?_
      by_cases hkk:k=k0
      ·subst hkk;rw [if_pos rfl,hj0,if_pos (by omega)]
      ·rw [if_neg hkk]
       have hne:dvN b.Ab k ≠ j:=fun e=>by
        have:=(qoF.1 (qjW hd (k:=k) (by omega)).2).1
        rw [e,hk0] at this;omega
       by_cases h1:dvN b.Ab k<j
       ·rw [if_pos h1,if_pos (by omega)]
       ·rw [if_neg h1,if_neg (by omega)]
     rw [e5,e6] at hX
     exact hX)
  simpa [sinksL,pre,vecI] using this
 have hL5:∀ (i k:Nat) (s:Int) (t:List qu),i<b.Ac.length→0≤s→s≤78→t.length≤1000000→Ev (fun n=>qd0 (vecI (fun k=>(dvN b.Ab k:Int)) b.Ac.length) (i:Int) (k:Int) s n t 0) (t++wl1 (dvN b.Ab i) s k,2):=by
  intro i k s t hi hs0 hs1 ht
  have hdv:=(qjW hd (k:=i) (by omega)).1
  have hy:idx (vecI (fun k=>(dvN b.Ab k:Int)) b.Ac.length) (i:Int)=some (dvN b.Ab i:Int):=qnI hi
  refine Ev.succ ?_
  simp only [qd0,hy,jd]
  refine Ev.tt rfl ?_
  rw [wO (2*(dvN b.Ab i:Int)),wO (2*s),wO (2*(dvN b.Ab i:Int)+0),wO (2*s+0),qdb (by rw [js];omega)]
  simp only [jd]
  refine Ev.succ ?_
  simp only [qd0,hy,jd]
  refine Ev.tt rfl ?_
  rw [show W64 (0+1)=1 from rfl,wO (2*(dvN b.Ab i:Int)),wO (2*s),wO (2*(dvN b.Ab i:Int)+1),wO (2*s+1),qdb (by rw [jh,js,js];omega)]
  simp only [jd]
  refine Ev.succ ?_
  simp only [qd0]
  refine Ev.ff rfl (Ev.now ?_)
  unfold wl1
  rw [jq,Int.add_zero,Int.add_zero]
  rfl
 have hL4:∀ (i:Nat) (t:List qu),i<b.Ac.length→t.length≤900000→Ev (fun n=>qdX (vecI (fun k=>(dvN b.Ab k:Int)) b.Ac.length) (i:Int) (skL b i) n t 0) (t++wlN b i (skL b i).length,((skL b i).length:Int)):=by
  intro i t hi ht
  have hsm:=qhv h (i:=i)
  have:=loopF (Lf:=qdX (vecI (fun k=>(dvN b.Ab k:Int)) b.Ac.length) (i:Int) (skL b i)) (S:=fun k=>t++wlN b i k) (len:=(skL b i).length) (fin:=(t++wlN b i (skL b i).length,((skL b i).length:Int))) (fun n=>by simp only [qdX,ql (je _),cond_false])
   (fun k hk X hX=>by
    obtain ⟨y,hy,ey,_⟩:=qpw hk
    have hwn:=qtd (b:=b) (i:=i) (j:=k)
    simp only [qdX,qk hk,cond_true,qah hk,jd,wS k]
    refine Ev.bind (hL5 i k (at0 (skL b i) k) (t++wlN b i k) hi (by omega) (by omega) (by rw [jh];omega)) ?_
    rw [jq,show wlN b i k++wl1 (dvN b.Ab i) (at0 (skL b i) k) k=wlN b i (k+1) from qky.symm]
    exact hX)
  simpa [wlN,fm] using this
 have e3:Ev (fun n=>qdR b (pre (fun i=>skL b i) b.Ac.length) (vecI (fun k=>(dvN b.Ab k:Int)) b.Ac.length) n ([]:List (List Int)) ([]:List Int) (instLs b b.Ab.Aa.length) 0) (pre (exactL b) b.Ac.length,pre (load0 b) b.Ac.length,linksL b,(b.Ac.length:Int)):=by
  have hil:=qjh h (je _)
  have:=loopF (τ:=List (List Int) × List Int × List qu) (Lf:=fun n t j=>qdR b (pre (fun i=>skL b i) b.Ac.length) (vecI (fun k=>(dvN b.Ab k:Int)) b.Ac.length) n t.1 t.2.1 t.2.2 j) (S:=fun j=>(pre (exactL b) j,pre (load0 b) j,instLs b b.Ab.Aa.length++wireLs b j)) (len:=b.Ac.length)
   (fin:=(pre (exactL b) b.Ac.length,pre (load0 b) b.Ac.length,linksL b,(b.Ac.length:Int))) (fun n=>by simp only [qdR,ql (je _),cond_false];rfl)
   (fun j hj X hX=>by
    have hw:=qbu h hj
    have hlo:=hw.lo
    have hll:=qml h hj
    have hwl2:=qom h (j:=j)
    simp only [qdR,qk hj,cond_true,wS j]
    refine Ev.bind (qoN h hj) ?_
    rw [show idx (loadsL b j) (0:Int)=some (load0 b j) from qB (j:=0) (by omega)]
    simp only [jd]
    rw [qo1 (by omega)]
    simp only [jd]
    refine Ev.bind (qrD h hj) ?_
    rw [qo1 (by omega),qiz (f:=fun i=>skL b i) hj]
    simp only [jd]
    refine Ev.bind (hL4 j _ hj (by rw [jh];omega)) ?_
    rw [jq,show wireLs b j++wlN b j (skL b j).length=wireLs b (j+1) from qky.symm]
    exact hX)
  simpa [wireLs,fm,pre] using this
 unfold qkq
 refine Ev.bind (qn2 hs) (Ev.bind e1 ?_)
 rw [hm1,hm2]
 simp only [jd]
 exact Ev.bind e2 (Ev.bind e3 .done)
end Go.Fw


namespace Go.Fw
open Go Go.Proofs
open Go.RowKit (Below)
set_option maxRecDepth 100000
set_option maxHeartbeats 1600000
variable {n:Nat} {w:World} {cs1 cs2 cs3 cs4 cs5 cs6 cs7 cs8 cs9:List Value}
def qgE (n:Nat) (b:qg):Option Int :=
 (qcg n (⟨b.Ab.Aa,b.Ab.Ak,b.Ab.Aj⟩:qd)).bind fun r1 =>
 some (W64 (2*(r1.length:Int)))
theorem qi8 {b:qg} (ha1:Ro w b cs1) {r:Int} (hF:qgE n b=some r):RetV Tryz.prog 149 [GoT.v qg cs1] w r:=by
 obtain ⟨p1,k1,p2,k2,p3,k3,p4,k4,p5,k5,rfl,s1,s2,s3,s4,s5⟩:=qac ha1
 exact zV 8 Tryz.func149 rfl fun h=>zSR (qv h rfl rfl fun w1 bb1 h=>X1 6 0 h rfl (zcL h hF (qcc (qar _ (h.oldS s2) (h.oldS s3) (h.oldS s4))) rfl fun r1 w2 S1 p6 k6 h hF=>X0 4 rfl (ri h hF rfl)))
def qip (n:Nat) (s:qf):Option Bool :=
 (qau n s.Ap (-1000000000) 1000000000).bind fun r1 =>
 bif r1 then
  (qau n s.Be (-1000000000) 1000000000).bind fun r2 =>
  bif r2 then some (decide (s.Ap≤s.Be)) else
  some false
 else
  some false
theorem qkP {s:qf} (ha1:Ro w s cs1) {r:Bool} (hF:qip n s=some r):RetV Tryz.prog 151 [GoT.v qf cs1] w r:=by
 obtain rfl:=qz ha1
 refine zV 18 Tryz.func151 rfl fun h=>zSR (qv h rfl rfl fun w1 bb1 h=>X1 6 0 h rfl (zcB h hF qai rfl fun r1 w2 h hF=>zp1 rfl (qj (t:=6) hF rfl ?_ ?_)))<;>intro hF
 ·refine X1 5 0 h rfl (zcB h hF qai rfl fun r2 w3 h hF=>zp2 rfl (qj (t:=11) hF rfl ?_ ?_))<;>intro hF
  ·exact X2 13 0 0 h rfl (rb h hF rfl)
  exact X0 8 rfl (rb h hF rfl)
 exact X0 13 rfl (rb h hF rfl)
def qhP (_:Nat) (s:qf):Option Bool :=
 bif decide (s.Ap ≥ 0) then
  bif decide (s.Ap≤s.Be) then some (decide (s.Be≤1000000)) else
  some false
 else
  some false
theorem qlX {s:qf} (ha1:Ro w s cs1) {r:Bool} (hF:qhP n s=some r):RetV Tryz.prog 181 [GoT.v qf cs1] w r:=by
 obtain rfl:=qz ha1
 refine zV 18 Tryz.func181 rfl fun h=>zSR (qv h rfl rfl fun w1 bb1 h=>X1 8 0 h rfl (qj (t:=6) hF rfl ?_ ?_))<;>intro hF
 ·refine X2 12 0 0 h rfl (qj (t:=13) hF rfl ?_ ?_)<;>intro hF
  ·exact X1 9 0 h rfl (rb h hF rfl)
  exact X0 6 rfl (rb h hF rfl)
 exact X0 13 rfl (rb h hF rfl)
def qbQ (list:(List qe)) (r1:Int):Nat→Int→Option (Flow Bool Int)
 | 0,_=>none
 | n+1,i1 =>
  bif decide (i1<(list.length:Int)) then
   (idx list i1).bind fun y1 =>
   (qau n y1.Bq 0 (W64 (r1-1))).bind fun r2 =>
   bif (!r2) then some (.ret false) else
   bif decide (i1 > 0) then
    (idx list (W64 (i1-1))).bind fun y2 =>
    (idx list i1).bind fun y3 =>
    bif decide (y2.Bq ≥ y3.Bq) then some (.ret false) else
    (idx list i1).bind fun y4 =>
    (qip n (⟨y4.Ai.Ap,y4.Ai.Be⟩:qf)).bind fun r3 =>
    bif (!r3) then some (.ret false) else
    (idx list i1).bind fun y5 =>
    (qhP n (⟨y5.Bc.Ap,y5.Bc.Be⟩:qf)).bind fun r4 =>
    bif (!r4) then some (.ret false) else
    qbQ list r1 n (W64 (i1+1))
   else
    (idx list i1).bind fun y6 =>
    (qip n (⟨y6.Ai.Ap,y6.Ai.Be⟩:qf)).bind fun r5 =>
    bif (!r5) then some (.ret false) else
    (idx list i1).bind fun y7 =>
    (qhP n (⟨y7.Bc.Ap,y7.Bc.Be⟩:qf)).bind fun r6 =>
    bif (!r6) then some (.ret false) else
    qbQ list r1 n (W64 (i1+1))
  else
   some (.nxt i1)
def qgn (n:Nat) (b:qg) (list:(List qe)):Option Bool :=
 (qgE n b).bind fun r1 =>
 (qbQ list r1 n 0).bind fun o=>match o with
 | .ret r=>some r
 | .nxt _ =>
  some true
theorem qox {b:qg} {list:(List qe)} (ha1:Ro w b cs1) (ha2:Ro w list cs2) {r:Bool} (hF:qgn n b list=some r):RetV Tryz.prog 146 [GoT.v qg cs1,GoT.v (List qe) cs2] w r:=by
 obtain ⟨p1,k1,p2,k2,p3,k3,p4,k4,p5,k5,rfl,s1,s2,s3,s4,s5⟩:=qac ha1
 obtain ⟨p6,k6,rfl,s6⟩:=ha2
 refine zV 60 Tryz.func146 rfl fun h=>zSR (qv h rfl rfl fun w1 bb1 h=>X1 5 0 h rfl (zcI h hF (qi8 (h.old ha1)) rfl fun r1 w2 h hF=>X0 7 rfl ?_))
 obtain ⟨o1,hF,hK1⟩:=qc hF
 refine qm ?_
 replace h:=h.pick [] rfl
 refine rL (fun m e w'=>∃ (i1:Int),qbQ list r1 m i1=some o1∧e=[(1,.slice p6 list.length k6),(5,.int .i64 r1),(6,.int .i64 i1)]∧SH w w' []) n ⟨_,hF,rfl,h⟩ rfl ?_
 rintro m1 e1 w3 ⟨i1,hF,rfl,h⟩
 rcases m1 with _|m1
 ·cases hF
 refine X0 8 rfl (qh rfl hF ?_ ?_)<;>intro hF
 ·refine X0 4 rfl (rD (zd2 rfl ?_))
  obtain ⟨y1,hy1,hF,he1,b1,_,q1,cs3,hp1,hq1,hr2,hc2⟩:=s6.ix hF
  obtain rfl:=qE hr2
  refine zdxe hp1 hq1 he1 rfl (zd1 rfl (zdc 0 (hc2.below h.below) rfl (zd2 rfl ?_)))
  obtain ⟨r2,hr3,hF⟩:=qc hF
  refine qa0 r2 (vsB _) (cB 63 rfl) (fun _ hb=>qai  hr3) rfl rfl rfl rfl (zd2 rfl (qaT (t:=24) hF rfl ?_ ?_))<;>intro hF
  ·refine Y0 35 rfl (dN h fun w4 h=>qb0 rfl rfl (X0 4 rfl ?_))
   obtain rfl:=qb hF;replace hF:=hK1
   exact rb h hF rfl
  refine Y0 6 rfl (qaT (t:=27) hF rfl ?_ ?_)<;>intro hF
  ·refine Y0 7 rfl ?_
   obtain ⟨y2,hy2,hF,he2,b2,_,q2,cs4,hp2,hq2,hr4,hc3⟩:=s6.ix hF
   obtain rfl:=qE hr4
   refine zdxe hp2 hq2 he2 rfl (Y0 3 rfl (zdc 0 (hc3.below h.below) rfl (Y0 5 rfl ?_)))
   obtain ⟨y3,hy3,hF,he3,b3,_,q3,cs5,hp3,hq3,hr5,hc4⟩:=s6.ix hF
   obtain rfl:=qE hr5
   refine zdxe hp3 hq3 he3 rfl (Y0 3 rfl (zdc 0 (hc4.below h.below) rfl (Y0 6 rfl (qaT (t:=42) hF rfl ?_ ?_))))<;>intro hF
   ·refine Y0 17 rfl (dN h fun w5 h=>qb0 rfl rfl (X0 4 rfl ?_))
    obtain rfl:=qb hF;replace hF:=hK1
    exact rb h hF rfl
   refine Y0 5 rfl ?_
   obtain ⟨y4,hy4,hF,he4,b4,_,q4,cs6,hp4,hq4,hr6,hc5⟩:=s6.ix hF
   obtain rfl:=qE hr6
   refine zdxe hp4 hq4 he4 rfl (Y0 3 rfl (zdc 1 (hc5.below h.below) rfl (Y0 1 rfl ?_)))
   obtain ⟨r3,hr7,hF⟩:=qc hF
   refine qa0 r3 (vsB _) (cB 151 rfl) (fun _ hb=>qkP (qA _) hr7) rfl rfl rfl rfl (Y0 4 rfl (qaT (t:=51) hF rfl ?_ ?_))<;>intro hF
   ·refine Y0 8 rfl (dN h fun w6 h=>qb0 rfl rfl (X0 4 rfl ?_))
    obtain rfl:=qb hF;replace hF:=hK1
    exact rb h hF rfl
   refine Y0 5 rfl ?_
   obtain ⟨y5,hy5,hF,he5,b5,_,q5,cs7,hp5,hq5,hr8,hc6⟩:=s6.ix hF
   obtain rfl:=qE hr8
   refine zdxe hp5 hq5 he5 rfl (Y0 3 rfl (zdc 3 (hc6.below h.below) rfl (Y0 1 rfl ?_)))
   obtain ⟨r4,hr9,hF⟩:=qc hF
   refine qa0 r4 (vsB _) (cB 181 rfl) (fun _ hb=>qlX (qA _) hr9) rfl rfl rfl rfl (Y0 3 rfl (dN h fun w7 h=>qh rfl hF ?_ ?_))<;>intro hF
   ·refine X0 4 rfl ?_
    obtain rfl:=qb hF;replace hF:=hK1
    exact rb h hF rfl
   exact X0 7 rfl (rK ⟨_,hF,rfl,h⟩ rfl)
  refine Y0 21 rfl ?_
  obtain ⟨y6,hy6,hF,he6,b6,_,q6,cs8,hp6,hq6,hr10,hc8⟩:=s6.ix hF
  obtain rfl:=qE hr10
  refine zdxe hp6 hq6 he6 rfl (Y0 3 rfl (zdc 1 (hc8.below h.below) rfl (Y0 1 rfl ?_)))
  obtain ⟨r5,hr11,hF⟩:=qc hF
  refine qa0 r5 (vsB _) (cB 151 rfl) (fun _ hb=>qkP (qA _) hr11) rfl rfl rfl rfl (Y0 4 rfl (qaT (t:=51) hF rfl ?_ ?_))<;>intro hF
  ·refine Y0 8 rfl (dN h fun w8 h=>qb0 rfl rfl (X0 4 rfl ?_))
   obtain rfl:=qb hF;replace hF:=hK1
   exact rb h hF rfl
  refine Y0 5 rfl ?_
  obtain ⟨y7,hy7,hF,he7,b7,_,q7,cs9,hp7,hq7,hr12,hc9⟩:=s6.ix hF
  obtain rfl:=qE hr12
  refine zdxe hp7 hq7 he7 rfl (Y0 3 rfl (zdc 3 (hc9.below h.below) rfl (Y0 1 rfl ?_)))
  obtain ⟨r6,hr13,hF⟩:=qc hF
  refine qa0 r6 (vsB _) (cB 181 rfl) (fun _ hb=>qlX (qA _) hr13) rfl rfl rfl rfl (Y0 3 rfl (dN h fun w9 h=>qh rfl hF ?_ ?_))<;>intro hF
  ·refine X0 4 rfl ?_
   obtain rfl:=qb hF;replace hF:=hK1
   exact rb h hF rfl
  exact X0 7 rfl (rK ⟨_,hF,rfl,h⟩ rfl)
 refine qq rfl ?_
 obtain rfl:=qb hF;replace hF:=hK1
 exact X0 4 rfl (rb h hF rfl)
def qlM (n:Nat) (t:Int):Option Bool :=
 (qaR n t (-1000000000) 1000000000).bind fun r1 =>
 some r1
theorem qno {t:Int}  {r:Bool} (hF:qlM n t=some r):RetV Tryz.prog 231 [.int .i64 t] w r:=by
 exact zV 5 Tryz.func231 rfl fun h=>X0 7 rfl (zcB h hF qaz rfl fun r1 w1 h hF=>X0 2 rfl (rb h hF rfl))
def qgT (n:Nat) (s:qf):Option Bool :=
 (qlM n s.Ap).bind fun r1 =>
 bif r1 then
  (qlM n s.Be).bind fun r2 =>
  bif r2 then some (decide (s.Ap≤s.Be)) else
  some false
 else
  some false
theorem qiS {s:qf} (ha1:Ro w s cs1) {r:Bool} (hF:qgT n s=some r):RetV Tryz.prog 196 [GoT.v qf cs1] w r:=by
 obtain rfl:=qz ha1
 refine zV 18 Tryz.func196 rfl fun h=>zSR (qv h rfl rfl fun w1 bb1 h=>X1 6 0 h rfl (zcB h hF qno rfl fun r1 w2 h hF=>zp1 rfl (qj (t:=6) hF rfl ?_ ?_)))<;>intro hF
 ·refine X1 5 0 h rfl (zcB h hF qno rfl fun r2 w3 h hF=>zp2 rfl (qj (t:=11) hF rfl ?_ ?_))<;>intro hF
  ·exact X2 13 0 0 h rfl (rb h hF rfl)
  exact X0 8 rfl (rb h hF rfl)
 exact X0 13 rfl (rb h hF rfl)
def qlI (n:Nat) (a_n:Int):Option Bool :=
 (qaR n a_n 0 1000000).bind fun r1 =>
 some r1
theorem qnD {a_n:Int}  {r:Bool} (hF:qlI n a_n=some r):RetV Tryz.prog 253 [.int .i64 a_n] w r:=by
 exact zV 5 Tryz.func253 rfl fun h=>X0 7 rfl (zcB h hF qaz rfl fun r1 w1 h hF=>X0 2 rfl (rb h hF rfl))
def qhT (n:Nat) (s:qf):Option Bool :=
 (qgT n s).bind fun r1 =>
 bif r1 then
  (qlI n s.Ap).bind fun r2 =>
  bif r2 then
   (qlI n s.Be).bind fun r3 =>
   some r3
  else
   some false
 else
  some false
theorem ql2 {s:qf} (ha1:Ro w s cs1) {r:Bool} (hF:qhT n s=some r):RetV Tryz.prog 222 [GoT.v qf cs1] w r:=by
 obtain rfl:=qz ha1
 refine zV 15 Tryz.func222 rfl fun h=>zSR (qv h rfl rfl fun w1 bb1 h=>X1 5 0 h rfl (zcB h hF (qiS (h.old ha1)) rfl fun r1 w2 h hF=>zp1 rfl (qj (t:=5) hF rfl ?_ ?_)))<;>intro hF
 ·refine X1 5 0 h rfl (zcB h hF qnD rfl fun r2 w3 h hF=>zp2 rfl (qj (t:=10) hF rfl ?_ ?_))<;>intro hF
  ·exact X1 5 0 h rfl (zcB h hF qnD rfl fun r3 w4 h hF=>X0 3 rfl (rb h hF rfl))
  exact X0 6 rfl (rb h hF rfl)
 exact X0 11 rfl (rb h hF rfl)
def qef (_:Nat) (list:(List Tplace)):Option Int :=
 some (list.length:Int)
theorem qll {list:(List Tplace)} (ha1:Ro w list cs1) {r:Int} (hF:qef n list=some r):RetV Tryz.prog 160 [GoT.v (List Tplace) cs1] w r:=by
 obtain ⟨p1,k1,rfl,s1⟩:=ha1
 exact zV 5 Tryz.func160 rfl fun h=>X0 10 rfl (ri h hF rfl)
def qck (n:Nat) (v:(Option Tview)):Option Int :=
 (v).bind fun y1 =>
 (qef n y1.places).bind fun r1 =>
 some (W64 (2*r1))
theorem qeH {v:(Option Tview)} (ha1:Ro w v cs1) {r:Int} (hF:qck n v=some r):RetV Tryz.prog 107 [GoT.v (Option Tview) cs1] w r:=by
 obtain ⟨p1,rfl,s1⟩:=qaq ha1
 refine zV 9 Tryz.func107 rfl fun h=>X0 7 rfl ?_
 obtain ⟨y1,hy1,hF⟩:=qc hF
 obtain ⟨b1,o_1,cs2,rfl,-,hr1,hc1⟩:=PtR.get s1 hy1
 obtain ⟨p2,k1,p3,k2,p4,k3,p5,k4,p6,k5,p7,k6,p8,k7,p9,k8,p10,k9,p11,k10,rfl,s2,s3,s4,s5,s6,s7,s8,s9,s10,s11⟩:=qbP hr1
 exact zp2 rfl (zc 5 (hc1.below h.below) rfl (zcI h hF (qll ⟨_,_,rfl,(h.oldS s7)⟩) rfl fun r1 w1 h hF=>X0 3 rfl (ri h hF rfl)))
def qjm (n:Nat) (v:(Option Tview)) (node:Int):Option Bool :=
 (qck n v).bind fun r1 =>
 (qaR n node 0 (W64 (r1-1))).bind fun r2 =>
 some r2
theorem qn6 {v:(Option Tview)} {node:Int} (ha1:Ro w v cs1) {r:Bool} (hF:qjm n v node=some r):RetV Tryz.prog 224 [GoT.v (Option Tview) cs1,.int .i64 node] w r:=by
 obtain ⟨p1,rfl,s1⟩:=qaq ha1
 exact zV 10 Tryz.func224 rfl fun h=>X0 8 rfl (zcI h hF (qeH (h.old s1)) rfl fun r1 w1 h hF=>zp1 rfl (zcB h hF qaz rfl fun r2 w2 h hF=>X0 2 rfl (rb h hF rfl)))
def qaX (v:(Option Tview)) (list:(List qe)):Nat→Int→Option (Flow Bool Int)
 | 0,_=>none
 | n+1,i1 =>
  bif decide (i1<(list.length:Int)) then
   (idx list i1).bind fun y1 =>
   (qjm n v y1.Bq).bind fun r1 =>
   bif (!r1) then some (.ret false) else
   (qgT n (⟨y1.Ai.Ap,y1.Ai.Be⟩:qf)).bind fun r2 =>
   bif (!r2) then some (.ret false) else
   (qhT n (⟨y1.Bc.Ap,y1.Bc.Be⟩:qf)).bind fun r3 =>
   bif (!r3) then some (.ret false) else
   bif decide (i1 > 0) then
    (idx list (W64 (i1-1))).bind fun y2 =>
    bif decide (y2.Bq ≥ y1.Bq) then some (.ret false) else
    qaX v list n (W64 (i1+1))
   else
    qaX v list n (W64 (i1+1))
  else
   some (.nxt i1)
def qdy (n:Nat) (v:(Option Tview)) (list:(List qe)):Option Bool :=
 (qaX v list n 0).bind fun o=>match o with
 | .ret r=>some r
 | .nxt _ =>
  some true
theorem qlY {v:(Option Tview)} {list:(List qe)} (ha1:Ro w v cs1) (ha2:Ro w list cs2) {r:Bool} (hF:qdy n v list=some r):RetV Tryz.prog 191 [GoT.v (Option Tview) cs1,GoT.v (List qe) cs2] w r:=by
 obtain ⟨p1,rfl,s1⟩:=qaq ha1
 obtain ⟨p2,k1,rfl,s2⟩:=ha2
 refine zV 47 Tryz.func191 rfl fun h=>X0 11 rfl ?_
 obtain ⟨o1,hF,hK1⟩:=qc hF
 refine qm (rL (fun m e w'=>∃ (i1:Int),qaX v list m i1=some o1∧e=[(0,.pointer p1),(1,.slice p2 list.length k1),(7,.slice p2 list.length k1),(8,.int .i64 (list.length:Int)),(9,.int .i64 i1)]∧SH w w' []) n ⟨_,hF,rfl,h⟩ rfl ?_)
 rintro m1 e1 w1 ⟨i1,hF,rfl,h⟩
 rcases m1 with _|m1
 ·cases hF
 refine X0 5 rfl (qh rfl hF ?_ ?_)<;>intro hF
 ·refine X0 6 rfl ?_
  obtain ⟨y1,hy1,hF,he1,b1,_,q1,cs3,hp1,hq1,hr1,hc2⟩:=s2.ix hF
  obtain rfl:=qE hr1
  refine zxe hp1 hq1 he1 rfl (zc 0 (hc2.below h.below) rfl (qp qa h rfl rfl rfl fun w2 bb1 h=>zp1 rfl (zs 0 h rfl fun w3 h=>zNS (rD (Y1 3 0 h rfl ?_)))))
  obtain ⟨r1,hr2,hF⟩:=qc hF
  refine qa0 r1 (vsB _) (cB 224 rfl) (fun _ hb=>qn6 ((h.ext hb).old s1) hr2) rfl rfl rfl rfl (zd2 rfl (qaT (t:=19) hF rfl ?_ ?_))<;>intro hF
  ·refine Y0 26 rfl (dN h fun w4 h=>qb0 rfl rfl (X0 4 rfl ?_))
   obtain rfl:=qb hF;replace hF:=hK1
   exact rb h hF rfl
  refine Y1 4 0 h rfl ?_
  refine Y0 1 rfl ?_
  obtain ⟨r2,hr3,hF⟩:=qc hF
  refine qa0 r2 (vsB _) (cB 196 rfl) (fun _ hb=>qiS (qA _) hr3) rfl rfl rfl rfl (Y0 4 rfl (qaT (t:=25) hF rfl ?_ ?_))<;>intro hF
  ·refine Y0 20 rfl (dN h fun w5 h=>qb0 rfl rfl (X0 4 rfl ?_))
   obtain rfl:=qb hF;replace hF:=hK1
   exact rb h hF rfl
  refine Y1 4 0 h rfl ?_
  refine Y0 1 rfl ?_
  obtain ⟨r3,hr4,hF⟩:=qc hF
  refine qa0 r3 (vsB _) (cB 222 rfl) (fun _ hb=>ql2 (qA _) hr4) rfl rfl rfl rfl (Y0 4 rfl (qaT (t:=31) hF rfl ?_ ?_))<;>intro hF
  ·refine Y0 14 rfl (dN h fun w6 h=>qb0 rfl rfl (X0 4 rfl ?_))
   obtain rfl:=qb hF;replace hF:=hK1
   exact rb h hF rfl
  refine Y0 6 rfl (qaT (t:=34) hF rfl ?_ ?_)<;>intro hF
  ·refine Y0 7 rfl ?_
   obtain ⟨y2,hy2,hF,he2,b2,_,q2,cs4,hp2,hq2,hr5,hc3⟩:=s2.ix hF
   obtain rfl:=qE hr5
   refine zdxe hp2 hq2 he2 rfl (Y0 3 rfl (zdc 0 (hc3.below h.below) rfl (Y1 4 0 h rfl ?_)))
   refine Y0 5 rfl (dN h fun w7 h=>qh rfl hF ?_ ?_)<;>intro hF
   ·refine X0 4 rfl ?_
    obtain rfl:=qb hF;replace hF:=hK1
    exact rb h hF rfl
   refine X0 6 rfl ?_
   replace h:=h.pick [] rfl
   exact rK ⟨_,hF,rfl,h⟩ rfl
  refine Y0 12 rfl (dN h fun w8 h=>qbW rfl rfl (X0 6 rfl ?_))
  replace h:=h.pick [] rfl
  exact rK ⟨_,hF,rfl,h⟩ rfl
 refine qq rfl ?_
 obtain rfl:=qb hF;replace hF:=hK1
 exact X0 4 rfl (rb h hF rfl)
def qk8 (_:Nat) (a:(List qe)) (left:Int):Option Int :=
 bif decide ((W64 (left-(a.length:Int)))<0) then some (-1) else
 some (W64 (left-(a.length:Int)))
theorem qoO {a:(List qe)} {left:Int} (ha1:Ro w a cs1) {r:Int} (hF:qk8 n a left=some r):RetV Tryz.prog 32 [GoT.v (List qe) cs1,.int .i64 left] w r:=by
 obtain ⟨p1,k1,rfl,s1⟩:=ha1
 refine zV 12 Tryz.func32 rfl fun h=>X0 18 rfl (qh rfl hF ?_ ?_)<;>intro hF
 ·exact X0 4 rfl (ri h hF rfl)
 exact X0 6 rfl (ri h hF rfl)
def qjY (_:Nat) (a:qf):Option qf :=
 some (⟨a.Ap,a.Be⟩:qf)
theorem qnv {a:qf} (ha1:Ro w a cs1) {r:qf} (hF:qjY n a=some r):RetV Tryz.prog 104 [GoT.v qf cs1] w r:=by
 obtain rfl:=qz ha1
 refine zV 11 Tryz.func104 rfl fun h=>zSR (qv h rfl rfl fun w1 bb1 h=>qp qa h rfl rfl rfl fun w2 bb2 h=>zNSR (qp qa h rfl rfl rfl fun w3 bb3 h=>X1 6 2 h rfl (zs 0 h rfl fun w4 h=>X1 6 2 h rfl (zs 0 h rfl fun w5 h=>X1 4 0 h rfl (zs 1 h rfl fun w6 h=>qcH ?_)))))
 obtain rfl:=qb hF
 exact qT qa (ρ:=qf) [GoT.v qf (qh4 a)] h ⟨⟨_,_,_,rfl,rfl,h.box 1 rfl,rfl⟩,trivial⟩ (PV.done h (qZ (qx (S:=fun _=>False) (qA (⟨a.Ap,a.Be⟩:qf)))))
def qhR (n:Nat) (a:qe):Option qe :=
 (qjY n (⟨a.Ai.Ap,a.Ai.Be⟩:qf)).bind fun r1 =>
 (qjY n (⟨a.Bc.Ap,a.Bc.Be⟩:qf)).bind fun r2 =>
 some (⟨a.Bq,(⟨r1.Ap,r1.Be⟩:qf),(⟨r2.Ap,r2.Be⟩:qf)⟩:qe)
theorem qpV {a:qe} (ha1:Ro w a cs1) {r:qe} (hF:qhR n a=some r):RetV Tryz.prog 69 [GoT.v qe cs1] w r:=by
 obtain rfl:=qE ha1
 refine zV 16 Tryz.func69 rfl fun h=>zSR (qv h rfl rfl fun w1 bb1 h=>qp qa h rfl rfl rfl fun w2 bb2 h=>zNSR (qp qa h rfl rfl rfl fun w3 bb3 h=>X1 6 2 h rfl (zs 0 h rfl fun w4 h=>X1 5 2 h rfl (zcO h hF (qnv (qA _)) rfl fun r1 w5 S1 cs2 h hF=>?_))))
 obtain rfl:=qz (h.own 0 rfl)
 refine zp1 rfl (zs 1 h rfl fun w6 h=>X1 5 3 h rfl (zcO h hF (qnv (qA _)) rfl fun r2 w7 S2 cs3 h hF=>?_))
 obtain rfl:=qz (h.own 0 rfl)
 refine zp1 rfl (zs 2 h rfl fun w8 h=>X1 4 2 h rfl (zs 3 h rfl fun w9 h=>qcH ?_))
 obtain rfl:=qb hF
 exact qT qa (ρ:=qe) [GoT.v qe [.int .i64 a.Bq,.int .i64 r1.Ap,.int .i64 r1.Be,.int .i64 r2.Ap,.int .i64 r2.Be]] h ⟨⟨_,_,_,rfl,rfl,h.box 3 rfl,rfl⟩,trivial⟩ (PV.done h (qZ (qx (S:=fun _=>False) (qaB (⟨a.Bq,(⟨r1.Ap,r1.Be⟩:qf),(⟨r2.Ap,r2.Be⟩:qf)⟩:qe)))))
def qfo (a:(List qe)):Nat→(List qe)→Int→Option ((List qe) × Int)
 | 0,_,_=>none
 | n+1,x2,i1 =>
  bif decide (i1<(a.length:Int)) then
   (idx a i1).bind fun y1 =>
   (qhR n y1).bind fun r1 =>
   (idx x2 i1).bind fun _ =>
   qfo a n (setS x2 i1 r1) (W64 (i1+1))
  else
   some (x2,i1)
def qiw (n:Nat) (a:(List qe)):Option (List qe) :=
 (mkS (a.length:Int) ((⟨0,(⟨0,0⟩:qf),(⟨0,0⟩:qf)⟩:qe):qe)).bind fun x1 =>
 (qfo a n x1 0).bind fun o=>match o with
 | (x2,_) =>
  some x2
theorem qoG {a:(List qe)} (ha1:Ro w a cs1) {r:(List qe)} (hF:qiw n a=some r):RetV Tryz.prog 39 [GoT.v (List qe) cs1] w r:=by
 obtain ⟨p1,k1,rfl,s1⟩:=ha1
 refine zV 23 Tryz.func39 rfl fun h=>X0 8 rfl ?_
 obtain ⟨x1,hx1,hF⟩:=qc hF
 obtain ⟨g1,g2,hx1⟩:=qU hx1
 refine qam qa qe h rfl rfl rfl rfl rfl rfl rfl rfl rfl g1 g2 hx1 rfl fun w1 S1 p2 h=>X0 7 rfl ?_
 obtain ⟨o1,hF,hK1⟩:=qc hF
 refine qm (rL (fun m e w'=>∃ (x2:(List qe)) (i1:Int),qfo a m x2 i1=some o1∧e=[(0,.slice p1 a.length k1),(3,.slice p2 x1.length x1.length),(4,.int .i64 i1)]∧SH w w' [Ch.own S1 (x2:List qe) [.slice p2 x1.length x1.length]]) n ⟨_,_,hF,rfl,h⟩ rfl ?_)
 rintro m1 e1 w2 ⟨x2,i1,hF,rfl,h⟩
 rcases m1 with _|m1
 ·cases hF
 refine X0 8 rfl (qh rfl hF ?_ ?_)<;>intro hF
 ·refine X0 8 rfl ?_
  obtain ⟨y1,hy1,hF,he1,b1,_,q1,cs2,hp1,hq1,hr1,hc2⟩:=s1.ix hF
  obtain rfl:=qE hr1
  refine zxe hp1 hq1 he1 rfl (zc 0 (hc2.below h.below) rfl (zcO h hF (qpV (qaB y1)) rfl fun r1 w3 S2 cs3 h hF=>?_))
  obtain rfl:=qE (h.own 0 rfl)
  obtain ⟨y2,hy2,hF,he2,b2,_,q2,cs4,hp2,hq2,hr3,hc3⟩:=(h.sl 1 rfl).1.ix hF
  obtain rfl:=qE hr3
  refine zx hp2 hq2 ⟨he2.1,qC he2.2.1 (h.sl 1 rfl).2⟩ rfl (qaA qa 1 0 r1 h rfl hy2 hp2 hq2 (qaB y2) hc3 rfl rfl rfl (qaB r1) rfl rfl rfl fun w4 h=>X0 7 rfl ?_)
  replace h:=h.pick [1] rfl
  exact rK ⟨_,_,hF,rfl,h⟩ rfl
 refine qq rfl ?_
 obtain rfl:=qb hF;replace hF:=hK1
 refine X0 5 rfl ?_
 obtain rfl:=qb hF
 exact rO 0 h rfl ⟨rfl,trivial⟩
def qj0 (_:Nat) (a:qf) (b:qf):Option Bool :=
 bif (a.Ap != b.Ap) then some false else
 bif (a.Be != b.Be) then some false else
 some true
theorem qnM {a:qf} {b:qf} (ha1:Ro w a cs1) (ha2:Ro w b cs2) {r:Bool} (hF:qj0 n a b=some r):RetV Tryz.prog 119 [GoT.v qf cs1,GoT.v qf cs2] w r:=by
 obtain rfl:=qz ha1
 obtain rfl:=qz ha2
 refine zV 15 Tryz.func119 rfl fun h=>zSR (qv h rfl rfl fun w1 bb1 h=>qv h rfl rfl fun w2 bb2 h=>X2 11 1 0 h rfl (qh rfl hF ?_ ?_))<;>intro hF
 ·exact X0 4 rfl (rb h hF rfl)
 refine X2 10 1 0 h rfl (qh rfl hF ?_ ?_)<;>intro hF
 ·exact X0 4 rfl (rb h hF rfl)
 exact X0 5 rfl (rb h hF rfl)
def qhU (n:Nat) (a:qe) (b:qe):Option Bool :=
 bif (a.Bq != b.Bq) then some false else
 (qj0 n (⟨a.Ai.Ap,a.Ai.Be⟩:qf) (⟨b.Ai.Ap,b.Ai.Be⟩:qf)).bind fun r1 =>
 bif (!r1) then some false else
 (qj0 n (⟨a.Bc.Ap,a.Bc.Be⟩:qf) (⟨b.Bc.Ap,b.Bc.Be⟩:qf)).bind fun r2 =>
 bif (!r2) then some false else
 some true
theorem qpQ {a:qe} {b:qe} (ha1:Ro w a cs1) (ha2:Ro w b cs2) {r:Bool} (hF:qhU n a b=some r):RetV Tryz.prog 76 [GoT.v qe cs1,GoT.v qe cs2] w r:=by
 obtain rfl:=qE ha1
 obtain rfl:=qE ha2
 refine zV 22 Tryz.func76 rfl fun h=>zSR (qv h rfl rfl fun w1 bb1 h=>qv h rfl rfl fun w2 bb2 h=>X2 11 1 0 h rfl (qh rfl hF ?_ ?_))<;>intro hF
 ·exact X0 4 rfl (rb h hF rfl)
 refine X2 8 1 0 h rfl (zcB h hF (qnM (qA _) (qA _)) rfl fun r1 w3 h hF=>X0 2 rfl (qh rfl hF ?_ ?_))<;>intro hF
 ·exact X0 4 rfl (rb h hF rfl)
 refine X2 8 1 0 h rfl (zcB h hF (qnM (qA _) (qA _)) rfl fun r2 w4 h hF=>X0 2 rfl (qh rfl hF ?_ ?_))<;>intro hF
 ·exact X0 4 rfl (rb h hF rfl)
 exact X0 5 rfl (rb h hF rfl)
def qfd (a:(List qe)) (b:(List qe)):Nat→Int→Option (Flow Bool Int)
 | 0,_=>none
 | n+1,i1 =>
  bif decide (i1<(a.length:Int)) then
   (idx a i1).bind fun y1 =>
   (idx b i1).bind fun y2 =>
   (qhU n y1 y2).bind fun r1 =>
   bif (!r1) then some (.ret false) else
   qfd a b n (W64 (i1+1))
  else
   some (.nxt i1)
def qiL (n:Nat) (a:(List qe)) (b:(List qe)):Option Bool :=
 bif ((a.length:Int) != (b.length:Int)) then some false else
 (qfd a b n 0).bind fun o=>match o with
 | .ret r=>some r
 | .nxt _ =>
  some true
theorem qo8 {a:(List qe)} {b:(List qe)} (ha1:Ro w a cs1) (ha2:Ro w b cs2) {r:Bool} (hF:qiL n a b=some r):RetV Tryz.prog 45 [GoT.v (List qe) cs1,GoT.v (List qe) cs2] w r:=by
 obtain ⟨p1,k1,rfl,s1⟩:=ha1
 obtain ⟨p2,k2,rfl,s2⟩:=ha2
 refine zV 27 Tryz.func45 rfl fun h=>X0 13 rfl (qh rfl hF ?_ ?_)<;>intro hF
 ·exact X0 4 rfl (rb h hF rfl)
 refine X0 6 rfl ?_
 obtain ⟨o1,hF,hK1⟩:=qc hF
 refine qm (rL (fun m e w'=>∃ (i1:Int),qfd a b m i1=some o1∧e=[(0,.slice p1 a.length k1),(1,.slice p2 b.length k2),(5,.int .i64 i1)]∧SH w w' []) n ⟨_,hF,rfl,h⟩ rfl ?_)
 rintro m1 e1 w1 ⟨i1,hF,rfl,h⟩
 rcases m1 with _|m1
 ·cases hF
 refine X0 8 rfl (qh rfl hF ?_ ?_)<;>intro hF
 ·refine X0 4 rfl (rD (zd2 rfl ?_))
  obtain ⟨y1,hy1,hF,he1,b1,_,q1,cs3,hp1,hq1,hr1,hc3⟩:=s1.ix hF
  obtain rfl:=qE hr1
  refine zdxe hp1 hq1 he1 rfl (zdc 0 (hc3.below h.below) rfl (zd2 rfl ?_))
  obtain ⟨y2,hy2,hF,he2,b2,_,q2,cs4,hp2,hq2,hr2,hc4⟩:=s2.ix hF
  obtain rfl:=qE hr2
  refine zdxe hp2 hq2 he2 rfl (zdc 0 (hc4.below h.below) rfl ?_)
  obtain ⟨r1,hr3,hF⟩:=qc hF
  refine qa0 r1 (vsB _) (cB 76 rfl) (fun _ hb=>qpQ (qaB y1) (qaB y2) hr3) rfl rfl rfl rfl (zd1 rfl (dN h fun w2 h=>qh rfl hF ?_ ?_))<;>intro hF
  ·refine X0 4 rfl ?_
   obtain rfl:=qb hF;replace hF:=hK1
   exact rb h hF rfl
  exact X0 7 rfl (rK ⟨_,hF,rfl,h⟩ rfl)
 refine qq rfl ?_
 obtain rfl:=qb hF;replace hF:=hK1
 exact X0 4 rfl (rb h hF rfl)
def qmh (_:Nat) (list:(List Bool)):Option Int :=
 some (list.length:Int)
theorem qn9 {list:(List Bool)} (ha1:Ro w list cs1) {r:Int} (hF:qmh n list=some r):RetV Tryz.prog 220 [GoT.v (List Bool) cs1] w r:=by
 obtain ⟨p1,k1,rfl,s1⟩:=ha1
 exact zV 5 Tryz.func220 rfl fun h=>X0 10 rfl (ri h hF rfl)
def qgF (_:Nat) (list:(List qf)):Option Int :=
 some (list.length:Int)
theorem qhM {list:(List qf)} (ha1:Ro w list cs1) {r:Int} (hF:qgF n list=some r):RetV Tryz.prog 221 [GoT.v (List qf) cs1] w r:=by
 obtain ⟨p1,k1,rfl,s1⟩:=ha1
 exact zV 5 Tryz.func221 rfl fun h=>X0 10 rfl (ri h hF rfl)
def qeU (a_1:qy):Nat→Int→Option (Flow Bool Int)
 | 0,_=>none
 | n+1,i1 =>
  bif decide (i1<(a_1.Bg.length:Int)) then
   (idx a_1.Bg i1).bind fun y1 =>
   (idx a_1.Ai i1).bind fun y2 =>
   (qgT n y2).bind fun r2 =>
   bif (!r2) then some (.ret false) else
   (idx a_1.Bc i1).bind fun y3 =>
   (qhT n y3).bind fun r3 =>
   bif (!r3) then some (.ret false) else
   bif (!y1) then
    (idx a_1.Ai i1).bind fun y4 =>
    bif (!((y4.Ap==0)&&(y4.Be==0))) then some (.ret false) else
    (idx a_1.Bc i1).bind fun y5 =>
    bif (!((y5.Ap==0)&&(y5.Be==0))) then some (.ret false) else
    qeU a_1 n (W64 (i1+1))
   else
    qeU a_1 n (W64 (i1+1))
  else
   some (.nxt i1)
def qk5 (n:Nat) (a_0:(Option Tview)) (a_1:qy):Option Bool :=
 (qck n a_0).bind fun r1 =>
 (
  (qmh n a_1.Bg).bind fun r4 =>
  bif (r4 != r1) then some true else
  (qgF n a_1.Ai).bind fun r5 =>
  bif (r5 != r1) then some true else
  (qgF n a_1.Bc).bind fun r6 =>
  some (r6 != r1)).bind fun b1 =>
 bif b1 then some false else
 (qeU a_1 n 0).bind fun o=>match o with
 | .ret r=>some r
 | .nxt _ =>
  some true
theorem qna {a_0:(Option Tview)} {a_1:qy} (ha1:Ro w a_0 cs1) (ha2:Ro w a_1 cs2) {r:Bool} (hF:qk5 n a_0 a_1=some r):RetV Tryz.prog 189 [GoT.v (Option Tview) cs1,GoT.v qy cs2] w r:=by
 obtain ⟨p1,rfl,s1⟩:=qaq ha1
 obtain ⟨p2,k1,p3,k2,p4,k3,rfl,s2,s3,s4⟩:=qcN ha2
 refine zV 76 Tryz.func189 rfl fun h=>zSR (qv h rfl rfl fun w1 bb1 h=>X0 5 rfl (zcI h hF (qeH (h.old s1)) rfl fun r1 w2 h hF=>X0 4 rfl ?_))
 obtain ⟨KF1,hKF1,o2,hF,hK2⟩:=bindE hF
 refine qbe (fun e w'=>∃ (b1:Bool),KF1 b1=some r∧e=[(3,.pointer (some ⟨bb1,0,none⟩)),(28,.bool b1)]∧SH w w' [Ch.box bb1 (qbK a_1 p2 p3 p4 k1 k2 k3) 107]) ?_ ?_
 ·refine X1 3 0 h rfl (zcI h hF (qn9 ⟨_,_,rfl,(h.oldS s2)⟩) rfl fun r4 w6 h hF=>zp3 rfl (qj (t:=15) hF rfl ?_ ?_))<;>intro hF
  ·refine X0 14 rfl ?_
   obtain rfl:=qb hF
   exact rG ⟨_,hK2,rfl,h⟩ rfl
  refine X1 5 0 h rfl (zcI h hF (qhM ⟨_,_,rfl,(h.oldS s3)⟩) rfl fun r5 w7 h hF=>X0 6 rfl (qj (t:=22) hF rfl ?_ ?_))<;>intro hF
  ·refine X0 7 rfl ?_
   obtain rfl:=qb hF
   exact rG ⟨_,hK2,rfl,h⟩ rfl
  refine X1 5 0 h rfl (zcI h hF (qhM ⟨_,_,rfl,(h.oldS s4)⟩) rfl fun r6 w8 h hF=>X0 6 rfl ?_)
  obtain rfl:=qb hF
  exact rG ⟨_,hK2,rfl,h⟩ rfl
 rintro e2 w9 ⟨b1,hF,rfl,h⟩
 subst hKF1
 refine qh rfl hF ?_ ?_<;>intro hF
 ·exact X0 4 rfl (rb h hF rfl)
 refine X1 9 0 h rfl ?_
 obtain ⟨o1,hF,hK1⟩:=qc hF
 refine qm (rL (fun m e w'=>∃ (i1:Int),qeU a_1 m i1=some o1∧e=[(3,.pointer (some ⟨bb1,0,none⟩)),(30,.slice p2 a_1.Bg.length k1),(31,.int .i64 (a_1.Bg.length:Int)),(32,.int .i64 i1)]∧SH w w' [Ch.box bb1 (qbK a_1 p2 p3 p4 k1 k2 k3) 107]) n ⟨_,hF,rfl,h⟩ rfl ?_)
 rintro m1 e1 w3 ⟨i1,hF,rfl,h⟩
 rcases m1 with _|m1
 ·cases hF
 refine X0 5 rfl (qh rfl hF ?_ ?_)<;>intro hF
 ·refine X0 6 rfl ?_
  obtain ⟨y1,hy1,hF,he1,b2,_,q1,cs3,hp1,hq1,rfl,hc3⟩:=s2.ix hF
  refine zxe hp1 hq1 he1 rfl (zc 0 (hc3.below h.below) rfl (X1 8 0 h rfl ?_))
  obtain ⟨y2,hy2,hF,he2,b3,_,q2,cs4,hp2,hq2,hr3,hc4⟩:=s3.ix hF
  obtain rfl:=qz hr3
  refine zxe hp2 hq2 he2 rfl (zc 0 (hc4.below h.below) rfl (zcB h hF (qiS (qA y2)) rfl fun r2 w4 h hF=>zp2 rfl (qj (t:=44) hF rfl ?_ ?_)))<;>intro hF
  ·refine X0 31 rfl (qb0 rfl rfl (X0 4 rfl ?_))
   obtain rfl:=qb hF;replace hF:=hK1
   exact rb h hF rfl
  refine X1 7 0 h rfl ?_
  obtain ⟨y3,hy3,hF,he3,b4,_,q3,cs5,hp3,hq3,hr5,hc5⟩:=s4.ix hF
  obtain rfl:=qz hr5
  refine zxe hp3 hq3 he3 rfl (X0 1 rfl (zc 0 (hc5.below h.below) rfl (X0 1 rfl (zcB h hF (ql2 (qA y3)) rfl fun r3 w5 h hF=>X0 4 rfl (qj (t:=53) hF rfl ?_ ?_)))))<;>intro hF
  ·refine X0 22 rfl (qb0 rfl rfl (X0 4 rfl ?_))
   obtain rfl:=qb hF;replace hF:=hK1
   exact rb h hF rfl
  refine X0 6 rfl (qj (t:=56) hF rfl ?_ ?_)<;>intro hF
  ·refine X1 7 0 h rfl ?_
   obtain ⟨y4,hy4,hF,he4,b5,_,q4,cs6,hp4,hq4,hr7,hc6⟩:=s3.ix hF
   obtain rfl:=qz hr7
   refine zxe hp4 hq4 he4 rfl (X0 1 rfl (zc 0 (hc6.below h.below) rfl (X0 1 rfl (r_v (qaa qa [] [] rfl rfl rfl rfl rfl rfl rfl rfl) rfl (X0 1 rfl (r_v (qxK (by kernel_rfl) rfl rfl) rfl (X0 2 rfl (qj (t:=64) hF rfl ?_ ?_))))))))<;>intro hF
   ·refine X0 13 rfl (qb0 rfl rfl (X0 4 rfl ?_))
    obtain rfl:=qb hF;replace hF:=hK1
    exact rb h hF rfl
   refine X1 7 0 h rfl ?_
   obtain ⟨y5,hy5,hF,he5,b6,_,q5,cs7,hp5,hq5,hr8,hc7⟩:=s4.ix hF
   obtain rfl:=qz hr8
   refine zxe hp5 hq5 he5 rfl (X0 1 rfl (zc 0 (hc7.below h.below) rfl (X0 1 rfl (r_v (qaa qa [] [] rfl rfl rfl rfl rfl rfl rfl rfl) rfl (X0 1 rfl (r_v (qxK (by kernel_rfl) rfl rfl) rfl (X0 6 rfl (qh rfl hF ?_ ?_))))))))<;>intro hF
   ·refine X0 4 rfl ?_
    obtain rfl:=qb hF;replace hF:=hK1
    exact rb h hF rfl
   exact X0 6 rfl (rK ⟨_,hF,rfl,h⟩ rfl)
  exact X0 20 rfl (qbW rfl rfl (X0 6 rfl (rK ⟨_,hF,rfl,h⟩ rfl)))
 refine qq rfl ?_
 obtain rfl:=qb hF;replace hF:=hK1
 exact X0 4 rfl (rb h hF rfl)
def qdd (_:Nat) (list:(List qu)):Option Int :=
 some (list.length:Int)
theorem qhW {list:(List qu)} (ha1:Ro w list cs1) {r:Int} (hF:qdd n list=some r):RetV Tryz.prog 197 [GoT.v (List qu) cs1] w r:=by
 obtain ⟨p1,k1,rfl,s1⟩:=ha1
 exact zV 5 Tryz.func197 rfl fun h=>X0 10 rfl (ri h hF rfl)
def qeO (n:Nat) (v:(Option Tview)) (list:(List Int)):Option Bool :=
 (v).bind fun y1 =>
 (qdd n y1.links).bind fun r1 =>
 (qbM n list 0 (W64 (r1-1))).bind fun r2 =>
 bif r2 then
  (qfl n list).bind fun r3 =>
  some r3
 else
  some false
theorem qm9 {v:(Option Tview)} {list:(List Int)} (ha1:Ro w v cs1) (ha2:Ro w list cs2) {r:Bool} (hF:qeO n v list=some r):RetV Tryz.prog 190 [GoT.v (Option Tview) cs1,GoT.v (List Int) cs2] w r:=by
 obtain ⟨p1,rfl,s1⟩:=qaq ha1
 obtain ⟨p2,k1,rfl,s2⟩:=ha2
 refine zV 17 Tryz.func190 rfl fun h=>X0 8 rfl ?_
 obtain ⟨y1,hy1,hF⟩:=qc hF
 obtain ⟨b1,o_1,cs3,rfl,-,hr1,hc1⟩:=PtR.get s1 hy1
 obtain ⟨p3,k2,p4,k3,p5,k4,p6,k5,p7,k6,p8,k7,p9,k8,p10,k9,p11,k10,p12,k11,rfl,s3,s4,s5,s6,s7,s8,s9,s10,s11,s12⟩:=qbP hr1
 refine zp2 rfl (zc 6 (hc1.below h.below) rfl (zcI h hF (qhW ⟨_,_,rfl,(h.oldS s9)⟩) rfl fun r1 w1 h hF=>zp1 rfl (zcB h hF (qcd ⟨_,_,rfl,(h.oldS s2)⟩) rfl fun r2 w2 h hF=>zp1 rfl (qj (t:=13) hF rfl ?_ ?_))))<;>intro hF
 ·exact X0 3 rfl (zcB h hF (qjR ⟨_,_,rfl,(h.oldS s2)⟩) rfl fun r3 w3 h hF=>X0 3 rfl (rb h hF rfl))
 exact X0 5 rfl (rb h hF rfl)
def qbO (broken:(List Int)):Nat→(List Bool)→Int→Option ((List Bool) × Int)
 | 0,_,_=>none
 | n+1,x3,i2 =>
  bif decide (i2<(broken.length:Int)) then
   (idx broken i2).bind fun y3 =>
   (idx x3 y3).bind fun _ =>
   qbO broken n (setS x3 y3 false) (W64 (i2+1))
  else
   some (x3,i2)
def qbR (x1:(List Bool)):Nat→(List Bool)→Int→Option ((List Bool) × Int)
 | 0,_,_=>none
 | n+1,x2,i1 =>
  bif decide (i1<(x1.length:Int)) then
   (idx x2 i1).bind fun _ =>
   qbR x1 n (setS x2 i1 true) (W64 (i1+1))
  else
   some (x2,i1)
def qgO (n:Nat) (v:(Option Tview)) (broken:(List Int)):Option (Option Tgraph) :=
 (v).bind fun y1 =>
 (mkS (y1.links.length:Int) (false:Bool)).bind fun x1 =>
 (qbR x1 n x1 0).bind fun o=>match o with
 | (x2,_) =>
  (qbO broken n x2 0).bind fun o=>match o with
  | (x3,_) =>
   some (some (⟨v,x3⟩:Tgraph))
theorem qnH {A:Nat→Prop} (hA:∀ b,A b→old w b) {v:(Option Tview)} {broken:(List Int)} (ha1:GoT.R w A v cs1) (ha2:GoT.R w A broken cs2) {r:(Option Tgraph)} (hF:qgO n v broken=some r):RetG Tryz.prog 192 [GoT.v (Option Tview) cs1,GoT.v (List Int) cs2] w A r:=by
 obtain ⟨p1,rfl,s1⟩:=qaq ha1
 obtain ⟨p2,k1,rfl,s2⟩:=ha2
 have hg:=Rg.start hA
 refine qek Tryz.func192 rfl (m:=47) rfl rfl (fun h=>?_)
 refine X0 8 rfl ?_
 obtain ⟨y1,hy1,hF⟩:=qc hF
 obtain ⟨b1,o_1,cs3,rfl,-,hr1,hc1⟩:=PtR.get s1 hy1
 obtain ⟨p3,k2,p4,k3,p5,k4,p6,k5,p7,k6,p8,k7,p9,k8,p10,k9,p11,k10,p12,k11,rfl,s3,s4,s5,s6,s7,s8,s9,s10,s11,s12⟩:=qbP hr1
 refine zp2 rfl (zc 6 (hc1.below h.below) rfl (zp1 rfl ?_))
 obtain ⟨x1,hx1,hF⟩:=qc hF
 obtain ⟨g1,g2,hx1⟩:=qU hx1
 refine qam qa Bool h rfl rfl rfl rfl rfl rfl rfl rfl rfl g1 g2 hx1 rfl fun w1 S1 p13 h=>r_v (qaa qa [0,1] [.tmp 9,.tmp 15] rfl rfl rfl rfl rfl rfl rfl rfl) rfl (qv h rfl rfl fun w2 bb1 h=>X1 12 0 h rfl ?_)
 obtain ⟨o1,hF,hK1⟩:=qc hF
 refine qm (rL (fun m e w'=>∃ (x2:(List Bool)) (i1:Int),qbR x1 m x2 i1=some o1∧e=[(1,.slice p2 broken.length k1),(5,.pointer (some ⟨bb1,0,none⟩)),(22,.int .i64 (x1.length:Int)),(23,.int .i64 i1)]∧SH w w' [Ch.box bb1 [.pointer (some ⟨b1,o_1,none⟩),.slice p13 x1.length x1.length] 147,Ch.own S1 (x2:List Bool) [.slice p13 x1.length x1.length]]) n ⟨_,_,hF,rfl,h⟩ rfl ?_)
 rintro m1 e1 w3 ⟨x2,i1,hF,rfl,h⟩
 rcases m1 with _|m1
 ·cases hF
 refine X0 5 rfl (qh rfl hF ?_ ?_)<;>intro hF
 ·refine X1 14 0 h rfl ?_
  obtain ⟨y2,hy2,hF,he1,b2,_,q1,cs4,hp1,hq1,rfl,hc3⟩:=(h.sl 1 rfl).1.ix hF
  exact zx hp1 hq1 ⟨he1.1,qC he1.2.1 (h.sl 1 rfl).2⟩ rfl (qaA qa 1 0 true h rfl hy2 hp1 hq1 rfl hc3 rfl rfl rfl rfl rfl rfl rfl fun w4 h=>X0 6 rfl (rK ⟨_,_,hF,rfl,h⟩ rfl))
 refine qq rfl ?_
 obtain rfl:=qb hF;replace hF:=hK1
 refine X0 7 rfl ?_
 obtain ⟨o2,hF,hK2⟩:=qc hF
 refine qm (rL (fun m e w'=>∃ (x3:(List Bool)) (i2:Int),qbO broken m x3 i2=some o2∧e=[(5,.pointer (some ⟨bb1,0,none⟩)),(33,.slice p2 broken.length k1),(34,.int .i64 (broken.length:Int)),(35,.int .i64 i2)]∧SH w w' [Ch.box bb1 [.pointer (some ⟨b1,o_1,none⟩),.slice p13 x1.length x1.length] 147,Ch.own S1 (x3:List Bool) [.slice p13 x1.length x1.length]]) n ⟨_,_,hF,rfl,h⟩ rfl ?_)
 rintro m2 e2 w5 ⟨x3,i2,hF,rfl,h⟩
 rcases m2 with _|m2
 ·cases hF
 refine X0 5 rfl (qh rfl hF ?_ ?_)<;>intro hF
 ·refine zKSBSR ?_
  obtain ⟨y3,hy3,hF,he2,b3,_,q2,cs5,hp2,hq2,rfl,hc5⟩:=s2.ix hF
  refine zxe hp2 hq2 he2 rfl (zc 0 (hc5.below h.below) rfl (X1 8 0 h rfl ?_))
  obtain ⟨y4,hy4,hF,he3,b4,_,q3,cs6,hp3,hq3,rfl,hc6⟩:=(h.sl 1 rfl).1.ix hF
  exact zx hp3 hq3 ⟨he3.1,qC he3.2.1 (h.sl 1 rfl).2⟩ rfl (qaA qa 1 0 false h rfl hy4 hp3 hq3 rfl hc6 rfl rfl rfl rfl rfl rfl rfl fun w6 h=>X0 6 rfl (rK ⟨_,_,hF,rfl,h⟩ rfl))
 refine qq rfl ?_
 obtain rfl:=qb hF;replace hF:=hK2
 refine X0 5 rfl ?_
 obtain rfl:=qb hF
 have hv1:GoRs.Rs (ρ:=(Option Tgraph)) h.wc (reg A w h.wc) (some (⟨v,x3⟩:Tgraph)) [GoT.v (Option Tgraph) [.pointer (some ⟨bb1,0,none⟩)]]:=⟨_,rfl,(hg.outR h (Rg.boxR (x:=(⟨v,x3⟩:Tgraph)) 0 h rfl (⟨[.pointer (some ⟨b1,o_1,none⟩)],[.slice p13 x1.length x1.length],rfl,(hg.inR h s1),(Rg.ownR 1 h rfl)⟩)))⟩
 exact qdS qa (ρ:=(Option Tgraph)) (r:=(some (⟨v,x3⟩:Tgraph))) [GoT.v (Option Tgraph) [.pointer (some ⟨bb1,0,none⟩)]] h ⟨rfl,trivial⟩ hv1
def qcW (s:(List Int)) (v:Int):Nat→Int→Option (Flow Int Int)
 | 0,_=>none
 | n+1,i1 =>
  bif decide (i1<(s.length:Int)) then
   (idx s i1).bind fun y1 =>
   bif (v==y1) then some (.ret i1) else
   qcW s v n (W64 (i1+1))
  else
   some (.nxt i1)
def qhq (n:Nat) (s:(List Int)) (v:Int):Option Int :=
 (qcW s v n 0).bind fun o=>match o with
 | .ret r=>some r
 | .nxt _ =>
  some (-1)
theorem qn8 {s:(List Int)} {v:Int} (ha1:Ro w s cs1) {r:Int} (hF:qhq n s v=some r):RetV Tryz.prog 227 [GoT.v (List Int) cs1,.int .i64 v] w r:=by
 obtain ⟨p1,k1,rfl,s1⟩:=ha1
 refine zV 19 Tryz.func227 rfl fun h=>X0 11 rfl ?_
 obtain ⟨o1,hF,hK1⟩:=qc hF
 refine qm (rL (fun m e w'=>∃ (i1:Int),qcW s v m i1=some o1∧e=[(0,.slice p1 s.length k1),(1,.int .i64 v),(7,.int .i64 (s.length:Int)),(8,.int .i64 i1)]∧SH w w' []) n ⟨_,hF,rfl,h⟩ rfl ?_)
 rintro m1 e1 w1 ⟨i1,hF,rfl,h⟩
 rcases m1 with _|m1
 ·cases hF
 refine X0 5 rfl (qh rfl hF ?_ ?_)<;>intro hF
 ·refine X0 13 rfl ?_
  obtain ⟨y1,hy1,hF,he1,b1,_,q1,cs2,hp1,hq1,rfl,hc2⟩:=s1.ix hF
  refine zxe hp1 hq1 he1 rfl (zc 0 (hc2.below h.below) rfl (X0 2 rfl (qh rfl hF ?_ ?_)))<;>intro hF
  ·refine X0 5 rfl ?_
   obtain rfl:=qb hF;replace hF:=hK1
   exact ri h hF rfl
  exact X0 6 rfl (rK ⟨_,hF,rfl,h⟩ rfl)
 refine qq rfl ?_
 obtain rfl:=qb hF;replace hF:=hK1
 exact X0 4 rfl (ri h hF rfl)
def qiI (_:Nat) (l:qu) (v0:Int):Option Bool :=
 some (l.Bk==v0)
theorem qnb {l:qu} {v0:Int} (ha1:Ro w l cs1) {p1:Option Addr} (ha2:Ro w (some v0) [.pointer p1]) {r:Bool} (hF:qiI n l v0=some r):RetV Tryz.prog 254 [GoT.v qu cs1,.pointer p1] w r:=by
 obtain rfl:=qav ha1
 obtain ⟨b1,o_1,cs2,rfl,-,hr1,hc1⟩:=PtR.get ha2 rfl
 obtain rfl:=hr1
 exact zV 8 Tryz.func254 rfl fun h=>zSR (qv h rfl rfl fun w1 bb1 h=>X1 6 0 h rfl (zc 0 (hc1.below h.below) rfl (X0 3 rfl (rb h hF rfl))))
def qH (is_0:Int) (y1:Tgraph) (y2:Tview):Nat→(List Int)→Int→Option ((List Int) × Int)
 | 0,_,_=>none
 | n+1,x1,i1 =>
  bif decide (i1<(y2.links.length:Int)) then
   (idx y2.links i1).bind fun y3 =>
   (idx y1.live i1).bind fun y4 =>
   bif y4 then
    (qiI n y3 is_0).bind fun r1 =>
    bif r1 then
     (appS x1 ([i1]:List Int)).bind fun x2 =>
     qH is_0 y1 y2 n x2 (W64 (i1+1))
    else
     qH is_0 y1 y2 n x1 (W64 (i1+1))
   else
    qH is_0 y1 y2 n x1 (W64 (i1+1))
  else
   some (x1,i1)
def qci (n:Nat) (g:(Option Tgraph)) (is_0:Int):Option (List Int) :=
 (g).bind fun y1 =>
 (y1.view).bind fun y2 =>
 (qH is_0 y1 y2 n ([]:List Int) 0).bind fun o=>match o with
 | (x1,_) =>
  some x1
theorem qg1 {g:(Option Tgraph)} {is_0:Int} (ha1:Ro w g cs1) {p2:Option Addr} (ha2:Ro w (some is_0) [.pointer p2]) {r:(List Int)} (hF:qci n g is_0=some r):RetV Tryz.prog 225 [GoT.v (Option Tgraph) cs1,.func (.func 254) #[] #[.pointer p2]] w r:=by
 obtain ⟨p1,rfl,s1⟩:=qaq ha1
 obtain ⟨b1,o_1,cs2,rfl,-,hr1,hc1⟩:=PtR.get ha2 rfl
 obtain rfl:=hr1
 refine zV 39 Tryz.func225 rfl fun h=>X0 12 rfl ?_
 obtain ⟨y1,hy1,hF⟩:=qc hF
 obtain ⟨b2,o_2,cs3,rfl,-,hr2,hc2⟩:=PtR.get s1 hy1
 obtain ⟨p3,p4,k1,rfl,s2,s3⟩:=qdw hr2
 refine zp2 rfl (zc 0 (hc2.below h.below) rfl ?_)
 obtain ⟨y2,hy2,hF⟩:=qc hF
 obtain ⟨b3,o_3,cs4,rfl,-,hr3,hc3⟩:=PtR.get s2 hy2
 obtain ⟨p5,k2,p6,k3,p7,k4,p8,k5,p9,k6,p10,k7,p11,k8,p12,k9,p13,k10,p14,k11,rfl,s4,s5,s6,s7,s8,s9,s10,s11,s12,s13⟩:=qbP hr3
 refine zp2 rfl (zc 6 (hc3.below h.below) rfl (X0 3 rfl ?_))
 replace h:=h.nil (α:=Int)
 obtain ⟨o1,hF,hK1⟩:=qc hF
 refine qm (rL (fun m e w'=>∃ (S1:Nat→Prop) (p15:Option Addr) (ln1:Nat) (k12:Nat) (x1:(List Int)) (i1:Int),qH is_0 y1 y2 m x1 i1=some o1∧e=[(0,.pointer (some ⟨b2,o_2,none⟩)),(1,.func (.func 254) #[] #[.pointer (some ⟨b1,o_1,none⟩)]),(5,.slice p15 ln1 k12),(14,.slice p11 y2.links.length k8),(15,.int .i64 (y2.links.length:Int)),(16,.int .i64 i1)]∧SH w w' [Ch.own S1 (x1:List Int) [.slice p15 ln1 k12]]) n ⟨_,_,_,_,_,_,hF,rfl,h⟩ rfl ?_)
 rintro m1 e1 w1 ⟨S1,p15,ln1,k12,x1,i1,hF,rfl,h⟩
 obtain rfl:=(h.sl 0 rfl).2
 rcases m1 with _|m1
 ·cases hF
 refine X0 5 rfl (qh rfl hF ?_ ?_)<;>intro hF
 ·refine X0 6 rfl ?_
  obtain ⟨y3,hy3,hF,he1,b4,_,q1,cs5,hp1,hq1,hr4,hc5⟩:=s10.ix hF
  obtain rfl:=qav hr4
  refine zxe hp1 hq1 he1 rfl (zc 0 (hc5.below h.below) rfl (qp qa h rfl rfl rfl fun w2 bb1 h=>zp1 rfl (zs 0 h rfl fun w3 h=>X0 6 rfl (zc 1 (hc2.below h.below) rfl (zp1 rfl ?_)))))
  obtain ⟨y4,hy4,hF,he2,b5,_,q2,cs6,hp2,hq2,rfl,hc6⟩:=s3.ix hF
  refine zxe hp2 hq2 he2 rfl (zc 0 (hc6.below h.below) rfl (zp1 rfl (qj (t:=28) hF rfl ?_ ?_)))<;>intro hF
  ·refine X1 5 0 h rfl (zcB h hF (qnb (qbZ y3) (h.old ha2)) rfl fun r1 w4 h hF=>X0 2 rfl (qh rfl hF ?_ ?_))<;>intro hF
   ·refine X0 3 rfl (qL qa [.tmp 34] _ ([i1]:List Int) h rfl rfl rfl rfl rfl rfl rfl rfl rfl ⟨rfl,trivial⟩ rfl fun w5 p16 S2 h=>?_)
    obtain ⟨x2,hx1,hF⟩:=qc hF
    obtain ⟨g1,hx1⟩:=qaw hx1
    refine qcC qa 2 h rfl (h.sl 0 rfl).1 (h.sl 0 rfl).2 rfl rfl rfl rfl rfl rfl rfl rfl rfl g1 hx1 rfl fun w6 p17 k13 S3 h=>X0 7 rfl ?_
    replace h:=h.pick [2] rfl
    exact rK ⟨_,_,_,_,_,_,hF,rfl,h⟩ rfl
   refine X0 6 rfl ?_
   replace h:=h.pick [1] rfl
   exact rK ⟨_,_,_,_,_,_,hF,rfl,h⟩ rfl
  refine X0 5 rfl (qbW rfl rfl (X0 6 rfl ?_))
  replace h:=h.pick [1] rfl
  exact rK ⟨_,_,_,_,_,_,hF,rfl,h⟩ rfl
 refine qq rfl ?_
 obtain rfl:=qb hF;replace hF:=hK1
 refine X0 5 rfl ?_
 obtain rfl:=qb hF
 exact rO 0 h rfl ⟨rfl,trivial⟩
def qh3 (n:Nat) (g:(Option Tgraph)) (node:Int):Option (List Int) :=
 (qci n g node).bind fun r1 =>
 some r1
theorem qon {g:(Option Tgraph)} {node:Int} (ha1:Ro w g cs1) {r:(List Int)} (hF:qh3 n g node=some r):RetV Tryz.prog 228 [GoT.v (Option Tgraph) cs1,.int .i64 node] w r:=by
 obtain ⟨p1,rfl,s1⟩:=qaq ha1
 refine zV 8 Tryz.func228 rfl fun h=>zSR (qv h rfl rfl fun w1 bb1 h=>X0 6 rfl (zcL h hF (qg1 (h.old s1) (qgS (x:=node) 0 h rfl rfl)) rfl fun r1 w2 S1 p2 k1 h hF=>X0 2 rfl ?_))
 obtain rfl:=qb hF
 exact rO 0 h rfl ⟨rfl,trivial⟩
def qh9 (_:Nat) (_:qu):Option Bool :=
 some true
theorem qm5 {a_0:qu} (ha1:Ro w a_0 cs1) {r:Bool} (hF:qh9 n a_0=some r):RetV Tryz.prog 226 [GoT.v qu cs1] w r:=by
 obtain rfl:=qav ha1
 exact zV 3 Tryz.func226 rfl fun h=>zSR (qv h rfl rfl fun w1 bb1 h=>X0 6 rfl (rb h hF rfl))
def qF (y1:Tgraph) (y2:Tview):Nat→(List Int)→Int→Option ((List Int) × Int)
 | 0,_,_=>none
 | n+1,x1,i1 =>
  bif decide (i1<(y2.links.length:Int)) then
   (idx y2.links i1).bind fun y3 =>
   (idx y1.live i1).bind fun y4 =>
   bif y4 then
    (qh9 n y3).bind fun r1 =>
    bif r1 then
     (appS x1 ([i1]:List Int)).bind fun x2 =>
     qF y1 y2 n x2 (W64 (i1+1))
    else
     qF y1 y2 n x1 (W64 (i1+1))
   else
    qF y1 y2 n x1 (W64 (i1+1))
  else
   some (x1,i1)
def qbg (n:Nat) (g:(Option Tgraph)):Option (List Int) :=
 (g).bind fun y1 =>
 (y1.view).bind fun y2 =>
 (qF y1 y2 n ([]:List Int) 0).bind fun o=>match o with
 | (x1,_) =>
  some x1
theorem qgQ {g:(Option Tgraph)} (ha1:Ro w g cs1) {r:(List Int)} (hF:qbg n g=some r):RetV Tryz.prog 225 [GoT.v (Option Tgraph) cs1,.func (.func 226) #[] #[]] w r:=by
 obtain ⟨p1,rfl,s1⟩:=qaq ha1
 refine zV 39 Tryz.func225 rfl fun h=>X0 12 rfl ?_
 obtain ⟨y1,hy1,hF⟩:=qc hF
 obtain ⟨b1,o_1,cs2,rfl,-,hr1,hc1⟩:=PtR.get s1 hy1
 obtain ⟨p2,p3,k1,rfl,s2,s3⟩:=qdw hr1
 refine zp2 rfl (zc 0 (hc1.below h.below) rfl ?_)
 obtain ⟨y2,hy2,hF⟩:=qc hF
 obtain ⟨b2,o_2,cs3,rfl,-,hr2,hc2⟩:=PtR.get s2 hy2
 obtain ⟨p4,k2,p5,k3,p6,k4,p7,k5,p8,k6,p9,k7,p10,k8,p11,k9,p12,k10,p13,k11,rfl,s4,s5,s6,s7,s8,s9,s10,s11,s12,s13⟩:=qbP hr2
 refine zp2 rfl (zc 6 (hc2.below h.below) rfl (X0 3 rfl ?_))
 replace h:=h.nil (α:=Int)
 obtain ⟨o1,hF,hK1⟩:=qc hF
 refine qm (rL (fun m e w'=>∃ (S1:Nat→Prop) (p14:Option Addr) (ln1:Nat) (k12:Nat) (x1:(List Int)) (i1:Int),qF y1 y2 m x1 i1=some o1∧e=[(0,.pointer (some ⟨b1,o_1,none⟩)),(1,.func (.func 226) #[] #[]),(5,.slice p14 ln1 k12),(14,.slice p10 y2.links.length k8),(15,.int .i64 (y2.links.length:Int)),(16,.int .i64 i1)]∧SH w w' [Ch.own S1 (x1:List Int) [.slice p14 ln1 k12]]) n ⟨_,_,_,_,_,_,hF,rfl,h⟩ rfl ?_)
 rintro m1 e1 w1 ⟨S1,p14,ln1,k12,x1,i1,hF,rfl,h⟩
 obtain rfl:=(h.sl 0 rfl).2
 rcases m1 with _|m1
 ·cases hF
 refine X0 5 rfl (qh rfl hF ?_ ?_)<;>intro hF
 ·refine X0 6 rfl ?_
  obtain ⟨y3,hy3,hF,he1,b3,_,q1,cs4,hp1,hq1,hr3,hc4⟩:=s10.ix hF
  obtain rfl:=qav hr3
  refine zxe hp1 hq1 he1 rfl (zc 0 (hc4.below h.below) rfl (qp qa h rfl rfl rfl fun w2 bb1 h=>zp1 rfl (zs 0 h rfl fun w3 h=>X0 6 rfl (zc 1 (hc1.below h.below) rfl (zp1 rfl ?_)))))
  obtain ⟨y4,hy4,hF,he2,b4,_,q2,cs5,hp2,hq2,rfl,hc5⟩:=s3.ix hF
  refine zxe hp2 hq2 he2 rfl (zc 0 (hc5.below h.below) rfl (zp1 rfl (qj (t:=28) hF rfl ?_ ?_)))<;>intro hF
  ·refine X1 5 0 h rfl (zcB h hF (qm5 (qbZ y3)) rfl fun r1 w4 h hF=>X0 2 rfl (qh rfl hF ?_ ?_))<;>intro hF
   ·refine X0 3 rfl (qL qa [.tmp 34] _ ([i1]:List Int) h rfl rfl rfl rfl rfl rfl rfl rfl rfl ⟨rfl,trivial⟩ rfl fun w5 p15 S2 h=>?_)
    obtain ⟨x2,hx1,hF⟩:=qc hF
    obtain ⟨g1,hx1⟩:=qaw hx1
    refine qcC qa 2 h rfl (h.sl 0 rfl).1 (h.sl 0 rfl).2 rfl rfl rfl rfl rfl rfl rfl rfl rfl g1 hx1 rfl fun w6 p16 k13 S3 h=>X0 7 rfl ?_
    replace h:=h.pick [2] rfl
    exact rK ⟨_,_,_,_,_,_,hF,rfl,h⟩ rfl
   refine X0 6 rfl ?_
   replace h:=h.pick [1] rfl
   exact rK ⟨_,_,_,_,_,_,hF,rfl,h⟩ rfl
  refine X0 5 rfl (qbW rfl rfl (X0 6 rfl ?_))
  replace h:=h.pick [1] rfl
  exact rK ⟨_,_,_,_,_,_,hF,rfl,h⟩ rfl
 refine qq rfl ?_
 obtain rfl:=qb hF;replace hF:=hK1
 refine X0 5 rfl ?_
 obtain rfl:=qb hF
 exact rO 0 h rfl ⟨rfl,trivial⟩
def qb5 (y1:Tgraph) (r4:(List Int)):Nat→(List Int)→Int→Option ((List Int) × Int)
 | 0,_,_=>none
 | n+1,x6,i3 =>
  bif decide (i3<(r4.length:Int)) then
   (idx r4 i3).bind fun y8 =>
   (y1.view).bind fun y9 =>
   (idx y9.links y8).bind fun y10 =>
   (idx x6 y10.To).bind fun y11 =>
   (idx x6 y10.To).bind fun _ =>
   qb5 y1 r4 n (setS x6 y10.To (W64 (y11-1))) (W64 (i3+1))
  else
   some (x6,i3)
def qb6 (a_0:(Option Tgraph)) (y1:Tgraph) (x1:(List Int)):Nat→(List Int)→(List Int)→Int→Option (Flow ((List Int) × Bool) ((List Int) × (List Int) × Int))
 | 0,_,_,_=>none
 | n+1,x3,x4,i2 =>
  bif decide (i2<(x1.length:Int)) then
   (qhq n x4 0).bind fun r3 =>
   bif decide (r3<0) then some (.ret ([],false)) else
   (idx x4 r3).bind fun _ =>
   (appS x3 ([r3]:List Int)).bind fun x5 =>
   (qh3 n a_0 r3).bind fun r4 =>
   (qb5 y1 r4 n (setS x4 r3 (-1)) 0).bind fun o=>match o with
   | (x6,_) =>
    qb6 a_0 y1 x1 n x5 x6 (W64 (i2+1))
  else
   some (.nxt (x3,x4,i2))
def qb4 (y1:Tgraph) (r2:(List Int)):Nat→(List Int)→Int→Option ((List Int) × Int)
 | 0,_,_=>none
 | n+1,x2,i1 =>
  bif decide (i1<(r2.length:Int)) then
   (idx r2 i1).bind fun y2 =>
   (y1.view).bind fun y3 =>
   (idx y3.links y2).bind fun y4 =>
   (idx x2 y4.To).bind fun y5 =>
   (idx x2 y4.To).bind fun _ =>
   qb4 y1 r2 n (setS x2 y4.To (W64 (y5+1))) (W64 (i1+1))
  else
   some (x2,i1)
def qhr (n:Nat) (a_0:(Option Tgraph)):Option ((List Int) × Bool) :=
 (a_0).bind fun y1 =>
 (qck n y1.view).bind fun r1 =>
 (mkS r1 (0:Int)).bind fun x1 =>
 (qbg n a_0).bind fun r2 =>
 (qb4 y1 r2 n x1 0).bind fun o=>match o with
 | (x2,_) =>
  (qb6 a_0 y1 x1 n ([]:List Int) x2 0).bind fun o=>match o with
  | .ret r=>some r
  | .nxt (x3,_,_) =>
   some (x3,true)
theorem qn3 {a_0:(Option Tgraph)} (ha1:Ro w a_0 cs1) {r:((List Int) × Bool)} (hF:qhr n a_0=some r):RetV Tryz.prog 193 [GoT.v (Option Tgraph) cs1] w r:=by
 obtain ⟨p1,rfl,s1⟩:=qaq ha1
 refine zV 83 Tryz.func193 rfl fun h=>X0 8 rfl ?_
 obtain ⟨y1,hy1,hF⟩:=qc hF
 obtain ⟨b1,o_1,cs2,rfl,-,hr1,hc1⟩:=PtR.get s1 hy1
 obtain ⟨p2,p3,k1,rfl,s2,s3⟩:=qdw hr1
 refine zp2 rfl (zc 0 (hc1.below h.below) rfl (zcI h hF (qeH (h.old s2)) rfl fun r1 w1 h hF=>?_))
 obtain ⟨x1,hx1,hF⟩:=qc hF
 obtain ⟨g1,g2,hx1⟩:=qU hx1
 refine qam qa Int h rfl rfl rfl rfl rfl rfl rfl rfl rfl g1 g2 hx1 rfl fun w2 S1 p4 h=>X0 6 rfl (zcL h hF (qgQ (h.old s1)) rfl fun r2 w3 S2 p5 k2 h hF=>X0 3 rfl ?_)
 obtain ⟨o1,hF,hK1⟩:=qc hF
 refine qm (rL (fun m e w'=>∃ (x2:(List Int)) (i1:Int),qb4 y1 r2 m x2 i1=some o1∧e=[(0,.pointer (some ⟨b1,o_1,none⟩)),(4,.slice p4 x1.length x1.length),(18,.slice p5 r2.length k2),(19,.int .i64 (r2.length:Int)),(20,.int .i64 i1)]∧SH w w' [Ch.own S2 (r2:List Int) [.slice p5 r2.length k2],Ch.own S1 (x2:List Int) [.slice p4 x1.length x1.length]]) n ⟨_,_,hF,rfl,h⟩ rfl ?_)
 rintro m1 e1 w4 ⟨x2,i1,hF,rfl,h⟩
 rcases m1 with _|m1
 ·cases hF
 refine X0 5 rfl (qh rfl hF ?_ ?_)<;>intro hF
 ·refine zKSBSR ?_
  obtain ⟨y2,hy2,hF,he1,b2,_,q1,cs3,hp1,hq1,rfl,hc3⟩:=(h.sl 0 rfl).1.ix hF
  refine zx hp1 hq1 ⟨he1.1,qC he1.2.1 (h.sl 0 rfl).2⟩ rfl (zc 0 hc3 rfl (X0 7 rfl (zc 0 (hc1.below h.below) rfl ?_)))
  obtain ⟨y3,hy3,hF⟩:=qc hF
  obtain ⟨b3,o_3,cs4,rfl,-,hr5,hc4⟩:=PtR.get s2 hy3
  obtain ⟨p6,k3,p7,k4,p8,k5,p9,k6,p10,k7,p11,k8,p12,k9,p13,k10,p14,k11,p15,k12,rfl,s4,s5,s6,s7,s8,s9,s10,s11,s12,s13⟩:=qbP hr5
  refine zp2 rfl (zc 6 (hc4.below h.below) rfl (zp1 rfl ?_))
  obtain ⟨y4,hy4,hF,he2,b4,_,q2,cs5,hp2,hq2,hr6,hc5⟩:=s10.ix hF
  obtain rfl:=qav hr6
  refine zxe hp2 hq2 he2 rfl (zp1 rfl (zc 1 (hc5.below h.below) rfl ?_))
  obtain ⟨y5,hy5,hF,he3,b5,_,q3,cs6,hp3,hq3,rfl,hc6⟩:=(h.sl 1 rfl).1.ix hF
  refine zx hp3 hq3 ⟨he3.1,qC he3.2.1 (h.sl 1 rfl).2⟩ rfl (zc 0 hc6 rfl (zp1 rfl ?_))
  obtain ⟨y6,hy6,hF,he4,b6,_,q4,cs7,hp4,hq4,rfl,hc7⟩:=(h.sl 1 rfl).1.ix hF
  exact zx hp4 hq4 ⟨he4.1,qC he4.2.1 (h.sl 1 rfl).2⟩ rfl (qaA qa 1 0 (W64 (y5+1)) h rfl hy6 hp4 hq4 rfl hc7 rfl rfl rfl rfl rfl rfl rfl fun w5 h=>X0 6 rfl (rK ⟨_,_,hF,rfl,h⟩ rfl))
 refine qq rfl ?_
 obtain rfl:=qb hF;replace hF:=hK1
 refine X0 11 rfl ?_
 replace h:=h.nil (α:=Int)
 obtain ⟨o2,hF,hK2⟩:=qc hF
 refine qm ?_
 replace h:=h.pick [0,2] rfl
 refine rL (fun m e w'=>∃ (S3:Nat→Prop) (p16:Option Addr) (ln1:Nat) (k13:Nat) (x3:(List Int)) (x4:(List Int)) (i2:Int),qb6 a_0 y1 x1 m x3 x4 i2=some o2∧e=[(0,.pointer (some ⟨b1,o_1,none⟩)),(4,.slice p4 x1.length x1.length),(7,.slice p16 ln1 k13),(42,.int .i64 (x1.length:Int)),(43,.int .i64 i2)]∧SH w w' [Ch.own S3 (x3:List Int) [.slice p16 ln1 k13],Ch.own S1 (x4:List Int) [.slice p4 x1.length x1.length]]) n ⟨_,_,_,_,_,_,_,hF,rfl,h⟩ rfl ?_
 rintro m2 e2 w6 ⟨S3,p16,ln1,k13,x3,x4,i2,hF,rfl,h⟩
 obtain rfl:=(h.sl 0 rfl).2
 rcases m2 with _|m2
 ·cases hF
 refine X0 5 rfl (qh rfl hF ?_ ?_)<;>intro hF
 ·refine X0 6 rfl (zcI h hF (qn8 (h.own 1 rfl)) rfl fun r3 w7 h hF=>X0 8 rfl (qh rfl hF ?_ ?_))<;>intro hF
  ·refine X0 5 rfl ?_
   obtain rfl:=qb hF;replace hF:=hK2
   obtain rfl:=qb hF
   exact qT qa (ρ:=((List Int) × Bool)) [GoT.v (List Int) [.slice none 0 0],GoT.v Bool [.bool false]] h ⟨rfl,rfl,trivial⟩ (PV.done h (qak h qg0 (qZ (qx (S:=fun _=>False) rfl)) (by rfl)))
  refine X0 5 rfl ?_
  obtain ⟨y7,hy7,hF,he5,b7,_,q5,cs8,hp5,hq5,rfl,hc10⟩:=(h.sl 1 rfl).1.ix hF
  refine zx hp5 hq5 ⟨he5.1,qC he5.2.1 (h.sl 1 rfl).2⟩ rfl (qaA qa 1 0 (-1) h rfl hy7 hp5 hq5 rfl hc10 rfl rfl rfl rfl rfl rfl rfl fun w8 h=>X0 5 rfl (qL qa [.tmp 53] _ ([r3]:List Int) h rfl rfl rfl rfl rfl rfl rfl rfl rfl ⟨rfl,trivial⟩ rfl fun w9 p17 S4 h=>?_))
  obtain ⟨x5,hx2,hF⟩:=qc hF
  obtain ⟨g3,hx2⟩:=qaw hx2
  refine qcC qa 1 h rfl (h.sl 0 rfl).1 (h.sl 0 rfl).2 rfl rfl rfl rfl rfl rfl rfl rfl rfl g3 hx2 rfl fun w10 p18 k14 S5 h=>X0 6 rfl (zcL h hF (qon (h.old s1)) rfl fun r4 w11 S6 p19 k15 h hF=>X0 3 rfl ?_)
  obtain ⟨o3,hF,hK3⟩:=qc hF
  refine qm ?_
  replace h:=h.pick [0,2,3] rfl
  refine rL (fun m e w'=>∃ (x6:(List Int)) (i3:Int),qb5 y1 r4 m x6 i3=some o3∧e=[(0,.pointer (some ⟨b1,o_1,none⟩)),(4,.slice p4 x1.length x1.length),(7,.slice p18 x5.length k14),(42,.int .i64 (x1.length:Int)),(43,.int .i64 i2),(58,.slice p19 r4.length k15),(59,.int .i64 (r4.length:Int)),(60,.int .i64 i3)]∧SH w w' [Ch.own S6 (r4:List Int) [.slice p19 r4.length k15],Ch.own S5 (x5:List Int) [.slice p18 x5.length k14],Ch.own S1 (x6:List Int) [.slice p4 x1.length x1.length]]) m2 ⟨_,_,hF,rfl,h⟩ rfl ?_
  rintro m3 e3 w12 ⟨x6,i3,hF,rfl,h⟩
  rcases m3 with _|m3
  ·cases hF
  refine X0 5 rfl (qh rfl hF ?_ ?_)<;>intro hF
  ·refine zKSBSR ?_
   obtain ⟨y8,hy8,hF,he6,b8,_,q6,cs9,hp6,hq6,rfl,hc12⟩:=(h.sl 0 rfl).1.ix hF
   refine zx hp6 hq6 ⟨he6.1,qC he6.2.1 (h.sl 0 rfl).2⟩ rfl (zc 0 hc12 rfl (X0 7 rfl (zc 0 (hc1.below h.below) rfl ?_)))
   obtain ⟨y9,hy9,hF⟩:=qc hF
   obtain ⟨b9,o_9,cs10,rfl,-,hr13,hc13⟩:=PtR.get s2 hy9
   obtain ⟨p20,k16,p21,k17,p22,k18,p23,k19,p24,k20,p25,k21,p26,k22,p27,k23,p28,k24,p29,k25,rfl,s14,s15,s16,s17,s18,s19,s20,s21,s22,s23⟩:=qbP hr13
   refine zp2 rfl (zc 6 (hc13.below h.below) rfl (zp1 rfl ?_))
   obtain ⟨y10,hy10,hF,he7,b10,_,q7,cs11,hp7,hq7,hr14,hc14⟩:=s20.ix hF
   obtain rfl:=qav hr14
   refine zxe hp7 hq7 he7 rfl (zp1 rfl (zc 1 (hc14.below h.below) rfl ?_))
   obtain ⟨y11,hy11,hF,he8,b11,_,q8,cs12,hp8,hq8,rfl,hc15⟩:=(h.sl 2 rfl).1.ix hF
   refine zx hp8 hq8 ⟨he8.1,qC he8.2.1 (h.sl 2 rfl).2⟩ rfl (zc 0 hc15 rfl (zp1 rfl ?_))
   obtain ⟨y12,hy12,hF,he9,b12,_,q9,cs13,hp9,hq9,rfl,hc16⟩:=(h.sl 2 rfl).1.ix hF
   exact zx hp9 hq9 ⟨he9.1,qC he9.2.1 (h.sl 2 rfl).2⟩ rfl (qaA qa 2 0 (W64 (y11-1)) h rfl hy12 hp9 hq9 rfl hc16 rfl rfl rfl rfl rfl rfl rfl fun w13 h=>X0 6 rfl (rK ⟨_,_,hF,rfl,h⟩ rfl))
  refine qq rfl ?_
  obtain rfl:=qb hF;replace hF:=hK3
  refine X0 5 rfl ?_
  replace h:=h.pick [1,2] rfl
  exact rK ⟨_,_,_,_,_,_,_,hF,rfl,h⟩ rfl
 refine qq rfl ?_
 obtain rfl:=qb hF;replace hF:=hK2
 refine X0 6 rfl ?_
 obtain rfl:=qb hF
 exact qT qa (ρ:=((List Int) × Bool)) [GoT.v (List Int) [.slice p16 x3.length k13],GoT.v Bool [.bool true]] h ⟨rfl,rfl,trivial⟩ (PV.done h (qak h (qag 0 h rfl) (qZ (qx (S:=fun _=>False) rfl)) (by rfl)))
def qfS (n:Nat) (b:qg) (c:qt) (broken:(List Int)) (sources:(List qe)) (t:(Option qy)):Option ((Option Tgraph) × (List Int) × Int) :=
 (
  (qiA n b).bind fun r9 =>
  bif (!r9) then some true else
  (qhI n c).bind fun r10 =>
  some (!r10)).bind fun b1 =>
 bif b1 then some (none,[],1) else
 (qkq n b).bind fun r1 =>
 (
  bif (!(t).isNone) then
   (t).bind fun y1 =>
   (qk5 n r1 y1).bind fun r8 =>
   some (!r8)
  else
   some false).bind fun b2 =>
 bif b2 then some (none,[],1) else
 (
  (qeO n r1 broken).bind fun r6 =>
  bif (!r6) then some true else
  (qdy n r1 sources).bind fun r7 =>
  some (!r7)).bind fun b3 =>
 bif b3 then some (none,[],2) else
 (qgO n r1 broken).bind fun r2 =>
 (qhr n r2).bind fun o=>match o with
  | (r4,r5) =>
   bif (!r5) then some (none,[],7) else
   some (r2,r4,0)
theorem qoc {A:Nat→Prop} (hA:∀ b,A b→old w b) {b:qg} {c:qt} {broken:(List Int)} {sources:(List qe)} {t:(Option qy)} (ha1:GoT.R w A b cs1) (ha2:GoT.R w A c cs2) (ha3:GoT.R w A broken cs3) (ha4:GoT.R w A sources cs4) (ha5:GoT.R w A t cs5) {r:((Option Tgraph) × (List Int) × Int)} (hF:qfS n b c broken sources t=some r):RetG Tryz.prog 156 [GoT.v qg cs1,GoT.v qt cs2,GoT.v (List Int) cs3,GoT.v (List qe) cs4,GoT.v (Option qy) cs5] w A r:=by
 obtain ⟨p1,k1,p2,k2,p3,k3,p4,k4,p5,k5,rfl,s1,s2,s3,s4,s5⟩:=qac ha1
 obtain rfl:=qaJ ha2
 obtain ⟨p6,k6,rfl,s6⟩:=ha3
 obtain ⟨p7,k7,rfl,s7⟩:=ha4
 obtain ⟨p8,rfl,s8⟩:=qaq ha5
 have hg:=Rg.start hA
 refine qek Tryz.func156 rfl (m:=61) rfl rfl (fun h=>?_)
 refine zSR (qv h rfl rfl fun w1 bb1 h=>qv h rfl rfl fun w2 bb2 h=>X0 6 rfl ?_)
 obtain ⟨KF3,hKF3,o3,hF,hK3⟩:=bindE hF
 refine qbe (fun e w'=>∃ (b1:Bool),KF3 b1=some r∧e=[(2,.slice p6 broken.length k6),(3,.slice p7 sources.length k7),(4,.pointer p8),(5,.pointer (some ⟨bb1,0,none⟩)),(24,.bool b1)]∧SH w w' [Ch.box bb1 (qa1 b p1 p2 p3 p4 p5 k1 k2 k3 k4 k5) 51]) ?_ ?_
 ·refine X1 2 1 h rfl (zcB h hF (qqw (h.old (GoT.mono ha1 hg.old))) rfl fun r9 w11 h hF=>zp2 rfl (qj (t:=20) hF rfl ?_ ?_))<;>intro hF
  ·refine X0 5 rfl ?_
   replace h:=h.pick [1] rfl
   obtain rfl:=qb hF
   exact rG ⟨_,hK3,rfl,h⟩ rfl
  refine X1 3 0 h rfl (zcB h hF (qpu (h.old (GoT.mono ha2 hg.old))) rfl fun r10 w12 h hF=>X0 4 rfl ?_)
  replace h:=h.pick [1] rfl
  obtain rfl:=qb hF
  exact rG ⟨_,hK3,rfl,h⟩ rfl
 rintro e3 w13 ⟨b1,hF,rfl,h⟩
 subst hKF3
 refine qh rfl hF ?_ ?_<;>intro hF
 ·refine X0 6 rfl ?_
  obtain rfl:=qb hF
  have hv1:GoRs.Rs (ρ:=((Option Tgraph) × (List Int) × Int)) h.wc (reg A w h.wc) (none,[],1) [GoT.v (Option Tgraph) [.pointer none],GoT.v (List Int) [.slice none 0 0],GoT.v Int [.int .i64 1]]:=⟨_,_,rfl,rfl,⟨_,_,rfl,(hg.outR h (⟨_,_,rfl,qnQ⟩)),⟨_,rfl,rfl⟩⟩⟩
  exact qdS qa (ρ:=((Option Tgraph) × (List Int) × Int)) (r:=(none,[],1)) [GoT.v (Option Tgraph) [.pointer none],GoT.v (List Int) [.slice none 0 0],GoT.v Int [.int .i64 1]] h ⟨rfl,rfl,rfl,trivial⟩ hv1
 refine X1 4 0 h rfl ?_
 obtain ⟨r1,hr1,hF⟩:=qc hF
 refine qh0 r1 hg h (cB 188 rfl) (qqr (hg.regOld h) (hg.inR h ha1) hr1) rfl rfl rfl rfl fun w3 us1 B1 hg1 hu1 hz1 hv2=>?_
 have hL1:=h.ext hu1.below
 have s9:=Up.S hg h hu1 s6
 have s10:=Up.S hg h hu1 s7
 have s11:=Up.Pt hg h hu1 s8
 have hb1:=h.below.trans (hu1.below.mono h.below.size)
 replace h:=hz1
 obtain ⟨cs6,rfl,hr2⟩:=qj8 hv2
 obtain ⟨p9,rfl,s12⟩:=qaq hr2
 refine X0 5 rfl ?_
 obtain ⟨KF2,hKF2,o2,hF,hK2⟩:=bindE hF
 refine qbe (fun e w'=>∃ (b2:Bool),KF2 b2=some r∧e=[(2,.slice p6 broken.length k6),(3,.slice p7 sources.length k7),(13,.pointer p9),(27,.bool b2)]∧SH w3 w' []) ?_ ?_
 ·refine X0 2 rfl ?_
  have hn1:=PtR.isNone s11
  refine r_v (qyb qa rfl rfl rfl rfl hn1) rfl (zp1 rfl (qj (t:=30) hF rfl ?_ ?_))<;>intro hF
  ·refine X0 5 rfl ?_
   obtain ⟨y1,hy1,hF⟩:=qc hF
   obtain ⟨b4,o_1,cs8,rfl,-,hr11,hc5⟩:=PtR.get s11 hy1
   obtain ⟨p12,k9,p13,k10,p14,k11,rfl,s14,s15,s16⟩:=qcN hr11
   refine X0 2 rfl (zc 0 (hc5.below h.below) rfl (X0 1 rfl (zcB h hF (qna (h.old (GoT.mono s12 hg1.old)) (qtW y1 (h.oldS (s14.mono hg1.old)) (h.oldS (s15.mono hg1.old)) (h.oldS (s16.mono hg1.old)))) rfl fun r8 w9 h hF=>X0 5 rfl ?_)))
   obtain rfl:=qb hF
   exact rG ⟨_,hK2,rfl,h⟩ rfl
  refine X0 9 rfl ?_
  obtain rfl:=qb hF
  exact rG ⟨_,hK2,rfl,h⟩ rfl
 rintro e2 w10 ⟨b2,hF,rfl,h⟩
 subst hKF2
 refine qh rfl hF ?_ ?_<;>intro hF
 ·refine X0 6 rfl ?_
  obtain rfl:=qb hF
  have hv3:GoRs.Rs (ρ:=((Option Tgraph) × (List Int) × Int)) h.wc (reg A w h.wc) (none,[],1) [GoT.v (Option Tgraph) [.pointer none],GoT.v (List Int) [.slice none 0 0],GoT.v Int [.int .i64 1]]:=⟨_,_,rfl,rfl,⟨_,_,rfl,(hg1.outR h (⟨_,_,rfl,qnQ⟩)),⟨_,rfl,rfl⟩⟩⟩
  exact qdS qa (ρ:=((Option Tgraph) × (List Int) × Int)) (r:=(none,[],1)) [GoT.v (Option Tgraph) [.pointer none],GoT.v (List Int) [.slice none 0 0],GoT.v Int [.int .i64 1]] (h.unbase hg1.below (show NoD [] from trivial)) ⟨rfl,rfl,rfl,trivial⟩ hv3
 refine qcP ?_
 obtain ⟨KF1,hKF1,o1,hF,hK1⟩:=bindE hF
 refine qbe (fun e w'=>∃ (b3:Bool),KF1 b3=some r∧e=[(2,.slice p6 broken.length k6),(13,.pointer p9),(38,.bool b3)]∧SH w3 w' []) ?_ ?_
 ·refine X0 3 rfl (zcB h hF (qm9 (h.old (GoT.mono s12 hg1.old)) ⟨_,_,rfl,(h.oldS (s9.mono hg1.old))⟩) rfl fun r6 w6 h hF=>zp2 rfl (qj (t:=43) hF rfl ?_ ?_))<;>intro hF
  ·refine X0 7 rfl ?_
   obtain rfl:=qb hF
   exact rG ⟨_,hK1,rfl,h⟩ rfl
  refine X0 5 rfl (zcB h hF (qlY (h.old (GoT.mono s12 hg1.old)) ⟨_,_,rfl,(h.oldS (s10.mono hg1.old))⟩) rfl fun r7 w7 h hF=>X0 5 rfl ?_)
  obtain rfl:=qb hF
  exact rG ⟨_,hK1,rfl,h⟩ rfl
 rintro e1 w8 ⟨b3,hF,rfl,h⟩
 subst hKF1
 refine qh rfl hF ?_ ?_<;>intro hF
 ·refine X0 6 rfl ?_
  obtain rfl:=qb hF
  have hv4:GoRs.Rs (ρ:=((Option Tgraph) × (List Int) × Int)) h.wc (reg A w h.wc) (none,[],2) [GoT.v (Option Tgraph) [.pointer none],GoT.v (List Int) [.slice none 0 0],GoT.v Int [.int .i64 2]]:=⟨_,_,rfl,rfl,⟨_,_,rfl,(hg1.outR h (⟨_,_,rfl,qnQ⟩)),⟨_,rfl,rfl⟩⟩⟩
  exact qdS qa (ρ:=((Option Tgraph) × (List Int) × Int)) (r:=(none,[],2)) [GoT.v (Option Tgraph) [.pointer none],GoT.v (List Int) [.slice none 0 0],GoT.v Int [.int .i64 2]] (h.unbase hg1.below (show NoD [] from trivial)) ⟨rfl,rfl,rfl,trivial⟩ hv4
 refine X0 6 rfl ?_
 obtain ⟨r2,hr3,hF⟩:=qc hF
 refine qh0 r2 hg1 h (cB 192 rfl) (qnH (hg1.regOld h) (hg1.inR h s12) ⟨_,_,rfl,(hg1.inS h s9)⟩ hr3) rfl rfl rfl rfl fun w4 us2 B2 hg2 hu2 hz2 hv5=>?_
 have hL2:=h.ext hu2.below
 have hb2:=h.below.trans (hu2.below.mono h.below.size)
 replace h:=hz2
 obtain ⟨cs7,rfl,hr4⟩:=qj8 hv5
 obtain ⟨p10,rfl,s13⟩:=qaq hr4
 refine X0 5 rfl ?_
 obtain ⟨r3,hr5,hF⟩:=qc hF
 obtain ⟨r4,r5⟩:=r3
 refine qa5 (r4,r5) h (cB 193 rfl) (qn3 (h.old (GoT.mono s13 hg2.old)) hr5) rfl rfl rfl rfl fun w5 S1 us3 hv6 hr6=>?_
 obtain ⟨S2,S3,p11,k8,us4,rfl,hv7,hr7⟩:=hv6.consL hr6
 obtain ⟨rfl,h⟩:=hv7.lastB hr7
 refine X0 12 rfl (qh rfl hF ?_ ?_)<;>intro hF
 ·refine X0 6 rfl ?_
  obtain rfl:=qb hF
  have hv9:GoRs.Rs (ρ:=((Option Tgraph) × (List Int) × Int)) h.wc (reg A w h.wc) (none,[],7) [GoT.v (Option Tgraph) [.pointer none],GoT.v (List Int) [.slice none 0 0],GoT.v Int [.int .i64 7]]:=⟨_,_,rfl,rfl,⟨_,_,rfl,(hg2.outR h (⟨_,_,rfl,qnQ⟩)),⟨_,rfl,rfl⟩⟩⟩
  exact qdS qa (ρ:=((Option Tgraph) × (List Int) × Int)) (r:=(none,[],7)) [GoT.v (Option Tgraph) [.pointer none],GoT.v (List Int) [.slice none 0 0],GoT.v Int [.int .i64 7]] (h.unbase hg2.below ⟨fun _ h=>h,trivial⟩) ⟨rfl,rfl,rfl,trivial⟩ hv9
 refine X0 9 rfl ?_
 obtain rfl:=qb hF
 have hv10:GoRs.Rs (ρ:=((Option Tgraph) × (List Int) × Int)) h.wc (reg A w h.wc) (r2,r4,0) [GoT.v (Option Tgraph) [.pointer p10],GoT.v (List Int) [.slice p11 r4.length k8],GoT.v Int [.int .i64 0]]:=⟨_,_,rfl,(hg2.outR h (hg2.inR h s13)),⟨_,_,rfl,(hg2.outR h (Rg.ownR 0 h rfl)),⟨_,rfl,rfl⟩⟩⟩
 exact qdS qa (ρ:=((Option Tgraph) × (List Int) × Int)) (r:=(r2,r4,0)) [GoT.v (Option Tgraph) [.pointer p10],GoT.v (List Int) [.slice p11 r4.length k8],GoT.v Int [.int .i64 0]] (h.unbase hg2.below ⟨fun _ h=>h,trivial⟩) ⟨rfl,rfl,rfl,trivial⟩ hv10
def qbY (a_0:Int) (x2:(List Bool)) (x5:(List Bool)):Nat→Int→Option Int
 | 0,_=>none
 | n+1,i4 =>
  bif decide (i4<a_0) then
   (idx x2 i4).bind fun y7 =>
   bif y7 then qbY a_0 x2 x5 n (W64 (i4+1)) else
   (idx x5 i4).bind fun y8 =>
   bif y8 then qbY a_0 x2 x5 n (W64 (i4+1)) else
   some i4
  else
   some i4
def qcz (a_1:(List qu)) (a_2:(List Bool)) (x2:(List Bool)):Nat→(List Bool)→Int→Option ((List Bool) × Int)
 | 0,_,_=>none
 | n+1,x5,i1 =>
  bif decide (i1<(a_1.length:Int)) then
   (
    (idx a_2 i1).bind fun y3 =>
    bif y3 then
     (idx a_1 i1).bind fun y4 =>
     (idx x2 y4.Bk).bind fun y5 =>
     some (!y5)
    else
     some false).bind fun b1 =>
   bif b1 then
    (idx a_1 i1).bind fun y1 =>
    (idx x5 y1.To).bind fun _ =>
    qcz a_1 a_2 x2 n (setS x5 y1.To true) (W64 (i1+1))
   else
    qcz a_1 a_2 x2 n x5 (W64 (i1+1))
  else
   some (x5,i1)
def qex (a_0:Int) (a_1:(List qu)) (a_2:(List Bool)):Nat→(List Bool)→(List Int)→Option (Flow ((List Int) × Bool) ((List Bool) × (List Int)))
 | 0,_,_=>none
 | n+1,x2,x3 =>
  bif decide ((x3.length:Int)<a_0) then
   (mkS a_0 (false:Bool)).bind fun x4 =>
   (qcz a_1 a_2 x2 n x4 0).bind fun o=>match o with
   | (x5,_) =>
    (qbY a_0 x2 x5 n 0).bind fun i3 =>
    bif (i3==a_0) then some (.ret (([]:List Int),false)) else
    (idx x2 i3).bind fun _ =>
    (appS x3 ([i3]:List Int)).bind fun x6 =>
    qex a_0 a_1 a_2 n (setS x2 i3 true) x6
  else
   some (.nxt (x2,x3))
def qhK (n:Nat) (a_0:Int) (a_1:(List qu)) (a_2:(List Bool)):Option ((List Int) × Bool) :=
 (mkS a_0 (false:Bool)).bind fun x1 =>
 (qex a_0 a_1 a_2 n x1 ([]:List Int)).bind fun o=>match o with
 | .ret r=>some r
 | .nxt (_,x3) =>
  some (x3,true)
theorem qpB {a_0:Int} {a_1:(List qu)} {a_2:(List Bool)} (ha1:Ro w a_1 cs1) (ha2:Ro w a_2 cs2) {r:((List Int) × Bool)} (hF:qhK n a_0 a_1 a_2=some r):RetV Tryz.prog 182 [.int .i64 a_0,GoT.v (List qu) cs1,GoT.v (List Bool) cs2] w r:=by
 obtain ⟨p1,k1,rfl,s1⟩:=ha1
 obtain ⟨p2,k2,rfl,s2⟩:=ha2
 refine zV 79 Tryz.func182 rfl fun h=>X0 7 rfl (qL qa [] _ ([]:List Int) h rfl rfl rfl rfl rfl rfl rfl rfl rfl trivial rfl fun w1 p3 S1 h=>X0 5 rfl ?_)
 obtain ⟨x1,hx1,hF⟩:=qc hF
 obtain ⟨g1,g2,hx1⟩:=qU hx1
 refine qam qa Bool h rfl rfl rfl rfl rfl rfl rfl rfl rfl g1 g2 hx1 rfl fun w2 S2 p4 h=>X0 3 rfl ?_
 obtain ⟨o1,hF,hK1⟩:=qc hF
 refine qm (rL (fun m e w'=>∃ (x2:(List Bool)) (S3:Nat→Prop) (p5:Option Addr) (ln1:Nat) (k3:Nat) (x3:(List Int)),qex a_0 a_1 a_2 m x2 x3=some o1∧e=[(0,.int .i64 a_0),(1,.slice p1 a_1.length k1),(2,.slice p2 a_2.length k2),(8,.slice p5 ln1 k3),(9,.slice p4 x1.length x1.length)]∧SH w w' [Ch.own S2 (x2:List Bool) [.slice p4 x1.length x1.length],Ch.own S3 (x3:List Int) [.slice p5 ln1 k3]]) n ⟨_,_,_,_,_,_,hF,rfl,h⟩ rfl ?_)
 rintro m1 e1 w3 ⟨x2,S3,p5,ln1,k3,x3,hF,rfl,h⟩
 obtain rfl:=(h.sl 1 rfl).2
 rcases m1 with _|m1
 ·cases hF
 refine X0 8 rfl (qh rfl hF ?_ ?_)<;>intro hF
 ·refine X0 5 rfl ?_
  obtain ⟨x4,hx2,hF⟩:=qc hF
  obtain ⟨g3,g4,hx2⟩:=qU hx2
  refine qam qa Bool h rfl rfl rfl rfl rfl rfl rfl rfl rfl g3 g4 hx2 rfl fun w4 S4 p6 h=>X0 7 rfl ?_
  obtain ⟨o2,hF,hK2⟩:=qc hF
  refine qm (rL (fun m e w'=>∃ (x5:(List Bool)) (i1:Int),qcz a_1 a_2 x2 m x5 i1=some o2∧e=[(0,.int .i64 a_0),(1,.slice p1 a_1.length k1),(2,.slice p2 a_2.length k2),(8,.slice p5 x3.length k3),(9,.slice p4 x1.length x1.length),(10,.slice p6 x4.length x4.length),(11,.int .i64 i1)]∧SH w w' [Ch.own S4 (x5:List Bool) [.slice p6 x4.length x4.length],Ch.own S2 (x2:List Bool) [.slice p4 x1.length x1.length],Ch.own S3 (x3:List Int) [.slice p5 x3.length k3]]) m1 ⟨_,_,hF,rfl,h⟩ rfl ?_)
  rintro m2 e2 w5 ⟨x5,i1,hF,rfl,h⟩
  rcases m2 with _|m2
  ·cases hF
  refine X0 8 rfl (qh rfl hF ?_ ?_)<;>intro hF
  ·refine X0 4 rfl ?_
   obtain ⟨KF1,hKF1,o3,hF,hK3⟩:=bindE hF
   refine qbe (fun e w'=>∃ (b1:Bool),KF1 b1=some o2∧e=[(0,.int .i64 a_0),(1,.slice p1 a_1.length k1),(2,.slice p2 a_2.length k2),(8,.slice p5 x3.length k3),(9,.slice p4 x1.length x1.length),(10,.slice p6 x4.length x4.length),(11,.int .i64 i1),(42,.bool b1)]∧SH w w' [Ch.own S4 (x5:List Bool) [.slice p6 x4.length x4.length],Ch.own S2 (x2:List Bool) [.slice p4 x1.length x1.length],Ch.own S3 (x3:List Int) [.slice p5 x3.length k3]]) ?_ ?_
   ·refine X0 3 rfl ?_
    obtain ⟨y3,hy3,hF,he3,b4,_,q3,cs5,hp3,hq3,rfl,hc6⟩:=s2.ix hF
    refine zxe hp3 hq3 he3 rfl (zc 0 (hc6.below h.below) rfl (zp1 rfl (qj (t:=32) hF rfl ?_ ?_)))<;>intro hF
    ·refine X0 7 rfl ?_
     obtain ⟨y4,hy4,hF,he4,b5,_,q4,cs6,hp4,hq4,hr4,hc7⟩:=s1.ix hF
     obtain rfl:=qav hr4
     refine zxe hp4 hq4 he4 rfl (X0 3 rfl (zc 0 (hc7.below h.below) rfl (X0 1 rfl ?_)))
     obtain ⟨y5,hy5,hF,he5,b6,_,q5,cs7,hp5,hq5,rfl,hc8⟩:=(h.sl 1 rfl).1.ix hF
     refine zx hp5 hq5 ⟨he5.1,qC he5.2.1 (h.sl 1 rfl).2⟩ rfl (X0 1 rfl (zc 0 hc8 rfl (X0 4 rfl ?_)))
     obtain rfl:=qb hF
     exact rG ⟨_,hK3,rfl,h⟩ rfl
    refine X0 11 rfl ?_
    obtain rfl:=qb hF
    exact rG ⟨_,hK3,rfl,h⟩ rfl
   rintro e3 w7 ⟨b1,hF,rfl,h⟩
   subst hKF1
   refine qh rfl hF ?_ ?_<;>intro hF
   ·refine X0 4 rfl ?_
    obtain ⟨y1,hy1,hF,he1,b2,_,q1,cs3,hp1,hq1,hr1,hc4⟩:=s1.ix hF
    obtain rfl:=qav hr1
    refine zxe hp1 hq1 he1 rfl (zp1 rfl (zc 1 (hc4.below h.below) rfl ?_))
    obtain ⟨y2,hy2,hF,he2,b3,_,q2,cs4,hp2,hq2,rfl,hc5⟩:=(h.sl 0 rfl).1.ix hF
    exact zx hp2 hq2 ⟨he2.1,qC he2.2.1 (h.sl 0 rfl).2⟩ rfl (qaA qa 0 0 true h rfl hy2 hp2 hq2 rfl hc5 rfl rfl rfl rfl rfl rfl rfl fun w6 h=>X0 7 rfl (rK ⟨_,_,hF,rfl,h⟩ rfl))
   exact X0 7 rfl (rK ⟨_,_,hF,rfl,h⟩ rfl)
  refine qq rfl ?_
  obtain rfl:=qb hF;replace hF:=hK2
  refine X0 5 rfl ?_
  obtain ⟨KF2,hKF2,o4,hF,hK4⟩:=bindE hF
  refine qbe (fun e w'=>∃ (i3:Int),KF2 i3=some o1∧e=[(0,.int .i64 a_0),(1,.slice p1 a_1.length k1),(2,.slice p2 a_2.length k2),(8,.slice p5 x3.length k3),(9,.slice p4 x1.length x1.length),(12,.int .i64 i3)]∧SH w w' [Ch.own S2 (x2:List Bool) [.slice p4 x1.length x1.length],Ch.own S3 (x3:List Int) [.slice p5 x3.length k3]]) ?_ ?_
  ·refine qm (rL (fun m e w'=>∃ (i4:Int),qbY a_0 x2 x5 m i4=some o4∧e=[(0,.int .i64 a_0),(1,.slice p1 a_1.length k1),(2,.slice p2 a_2.length k2),(8,.slice p5 x3.length k3),(9,.slice p4 x1.length x1.length),(10,.slice p6 x4.length x4.length),(12,.int .i64 i4)]∧SH w w' [Ch.own S4 (x5:List Bool) [.slice p6 x4.length x4.length],Ch.own S2 (x2:List Bool) [.slice p4 x1.length x1.length],Ch.own S3 (x3:List Int) [.slice p5 x3.length k3]]) m1 ⟨_,hF,rfl,h⟩ rfl ?_)
   rintro m3 e4 w12 ⟨i4,hF,rfl,h⟩
   rcases m3 with _|m3
   ·cases hF
   refine X0 7 rfl (qj (t:=53) hF rfl ?_ ?_)<;>intro hF
   ·refine X0 5 rfl ?_
    obtain ⟨y7,hy7,hF,he7,b8,_,q7,cs9,hp7,hq7,rfl,hc11⟩:=(h.sl 1 rfl).1.ix hF
    refine zx hp7 hq7 ⟨he7.1,qC he7.2.1 (h.sl 1 rfl).2⟩ rfl (X0 1 rfl (zc 0 hc11 rfl (X0 2 rfl (qj (t:=58) hF rfl ?_ ?_))))<;>intro hF
    ·exact X0 8 rfl (qb0 rfl rfl (X0 8 rfl (rK ⟨_,hF,rfl,h⟩ rfl)))
    refine X0 5 rfl ?_
    obtain ⟨y8,hy8,hF,he8,b9,_,q8,cs10,hp8,hq8,rfl,hc12⟩:=(h.sl 0 rfl).1.ix hF
    refine zx hp8 hq8 ⟨he8.1,qC he8.2.1 (h.sl 0 rfl).2⟩ rfl (X0 1 rfl (zc 0 hc12 rfl (X0 4 rfl (qh rfl hF ?_ ?_))))<;>intro hF
    ·exact X0 8 rfl (rK ⟨_,hF,rfl,h⟩ rfl)
    refine qq rfl ?_
    replace h:=h.pick [1,2] rfl
    obtain rfl:=qb hF
    exact rG ⟨_,hK4,rfl,h⟩ rfl
   refine X0 12 rfl (qbW rfl rfl (qq rfl ?_))
   replace h:=h.pick [1,2] rfl
   obtain rfl:=qb hF
   exact rG ⟨_,hK4,rfl,h⟩ rfl
  rintro e5 w13 ⟨i3,hF,rfl,h⟩
  subst hKF2
  refine X0 7 rfl (qh rfl hF ?_ ?_)<;>intro hF
  ·refine zSR (qL qa [] _ ([]:List Int) h rfl rfl rfl rfl rfl rfl rfl rfl rfl trivial rfl fun w8 p7 S5 h=>X0 3 rfl ?_)
   obtain rfl:=qb hF;replace hF:=hK1
   obtain rfl:=qb hF
   exact qT qa (ρ:=((List Int) × Bool)) [GoT.v (List Int) [.slice p7 0 0],GoT.v Bool [.bool false]] h ⟨rfl,rfl,trivial⟩ (PV.done h (qak h (qag 0 h rfl) (qZ (qx (S:=fun _=>False) rfl)) (by rfl)))
  refine X0 5 rfl ?_
  obtain ⟨y6,hy6,hF,he6,b7,_,q6,cs8,hp6,hq6,rfl,hc10⟩:=(h.sl 0 rfl).1.ix hF
  refine zx hp6 hq6 ⟨he6.1,qC he6.2.1 (h.sl 0 rfl).2⟩ rfl (qaA qa 0 0 true h rfl hy6 hp6 hq6 rfl hc10 rfl rfl rfl rfl rfl rfl rfl fun w9 h=>X0 4 rfl (qL qa [.tmp 75] _ ([i3]:List Int) h rfl rfl rfl rfl rfl rfl rfl rfl rfl ⟨rfl,trivial⟩ rfl fun w10 p8 S6 h=>?_))
  obtain ⟨x6,hx3,hF⟩:=qc hF
  obtain ⟨g5,hx3⟩:=qaw hx3
  refine qcC qa 2 h rfl (h.sl 0 rfl).1 (h.sl 0 rfl).2 rfl rfl rfl rfl rfl rfl rfl rfl rfl g5 hx3 rfl fun w11 p9 k4 S7 h=>X0 3 rfl ?_
  replace h:=h.pick [1,2] rfl
  exact rK ⟨_,_,_,_,_,_,hF,rfl,h⟩ rfl
 refine qq rfl ?_
 obtain rfl:=qb hF;replace hF:=hK1
 refine X0 6 rfl ?_
 obtain rfl:=qb hF
 exact qT qa (ρ:=((List Int) × Bool)) [GoT.v (List Int) [.slice p5 x3.length k3],GoT.v Bool [.bool true]] h ⟨rfl,rfl,trivial⟩ (PV.done h (qak h (qag 1 h rfl) (qZ (qx (S:=fun _=>False) rfl)) (by rfl)))
end Go.Fw


namespace Go.Fw
open Go
set_option maxRecDepth 100000
structure LkOk (ls:List qu) (M:Nat):Prop where
 len:ls.length≤10000
 nodes:M≤156
 fr0:∀ x,x<ls.length→0≤(gt ls x).Bk
 fr1:∀ x,x<ls.length→(gt ls x).Bk<(M:Int)
 to0:∀ x,x<ls.length→0≤(gt ls x).To
 to1:∀ x,x<ls.length→(gt ls x).To<(M:Int)
def frL (ls:List qu) (x:Nat):Int:=(gt ls x).Bk
def toL (ls:List qu) (x:Nat):Int:=(gt ls x).To
def lvL (lv:List Bool) (x:Nat):Bool:=gt lv x
abbrev inL (ls:List qu) (lv:List Bool) (j:Nat) (R:List Nat) (k:Nat):Nat:=inN j (frL ls) (toL ls) (lvL lv) R k
abbrev nxtL (ls:List qu) (lv:List Bool) (M:Nat) (R:List Nat):Option Nat:=nxtN ls.length (frL ls) (toL ls) (lvL lv) M R
abbrev ordL (ls:List qu) (lv:List Bool) (M m:Nat) (R:List Nat):Option (List Nat):=ordN ls.length (frL ls) (toL ls) (lvL lv) M m R
def ordR (ls:List qu) (lv:List Bool) (M:Nat):List Int × Bool:=match ordL ls lv M M [] with|some R=>(ints R,true)|none=>([],false)
theorem qwW {ls:List qu} {lv:List Bool} {M m:Nat} {R:List Nat} (h:nxtL ls lv M R=none):ordL ls lv M (m+1) R=none:=by
 show (match nxtL ls lv M R with|none=>none|some k=>ordL ls lv M m (R++[k]))=none
 rw [h]
theorem qwx {ls:List qu} {lv:List Bool} {M m k:Nat} {R:List Nat} (h:nxtL ls lv M R=some k):ordL ls lv M (m+1) R=ordL ls lv M m (R++[k]):=by
 show (match nxtL ls lv M R with|none=>none|some k=>ordL ls lv M m (R++[k]))=_
 rw [h]
theorem qp4 {M:Nat} {v:Bool} (h:M≤2147483648):mkS (M:Int) v=some (pre (fun _=>v) M):=by
 rw [qnT h]
 congr 1
 refine jY (by simp [pre]) fun i h1 h2=>?_
 simp [pre]
theorem qzR {L:Nat} {fr to:Nat→Int} {lv:Nat→Bool} {R:List Nat} {k:Nat}:inN L fr to lv R k≤L:=qgf
theorem quf {L:Nat} {fr to:Nat→Int} {lv:Nat→Bool} {R:List Nat} {k:Nat}:inN (L+1) fr to lv R k=inN L fr to lv R k+(bif lv L&&(to L==(k:Int)&&!decide (fr L ∈ ints R)) then 1 else 0):=rfl
def ledB (ls:List qu) (lv:List Bool) (j:Nat) (R:List Nat) (M:Nat):List Bool:=pre (fun k=>!decide (inL ls lv j R k=0)) M
def inB (R:List Nat) (M:Nat):List Bool:=pre (fun k=>decide (k ∈ R)) M
theorem qyL {ls:List qu} {lv:List Bool} {M:Nat} (h:LkOk ls M) (hl:lv.length=ls.length) {R:List Nat} :
  Ev (fun n=>qcz ls lv (inB R M) n (pre (fun _=>false) M) 0) (ledB ls lv ls.length R M,(ls.length:Int)):=by
 have hll:=h.len
 refine loopF (Lf:=qcz ls lv (inB R M)) (S:=fun j=>ledB ls lv j R M) (len:=ls.length) (fun n=>?_) (fun j hj X hX=>?_)
 ·simp only [qcz,ql (je _),cond_false]
 ·obtain ⟨a,ha⟩:∃ a:Nat,(gt ls j).Bk=(a:Int):=⟨_,qeD (h.fr0 j hj)⟩
  obtain ⟨c,hc⟩:∃ c:Nat,(gt ls j).To=(c:Int):=⟨_,qeD (h.to0 j hj)⟩
  have ha1:a<M:=by have:=h.fr1 j hj;omega
  have hc1:c<M:=by have:=h.to1 j hj;omega
  have hfr:frL ls j=(a:Int):=ha
  have hto:toL ls j=(c:Int):=hc
  have hmem:decide (frL ls j ∈ ints R)=decide (a ∈ R):=by rw [hfr];exact decide_eq_decide.2 qlT
  have i1:idx (inB R M) (a:Int)=some (decide (a ∈ R)):=qiz (f:=fun k=>decide (k ∈ R)) ha1
  have i2:idx (ledB ls lv j R M) (c:Int)=some (!decide (inL ls lv j R c=0)):=qiz (f:=fun k=>!decide (inL ls lv j R k=0)) hc1
  have key:(lvL lv j&&!decide (a ∈ R))=true→ledB ls lv (j+1) R M=setS (ledB ls lv j R M) (c:Int) true:=by
   intro hk
   unfold ledB
   rw [qo0]
   refine qhz fun k _=>?_
   show (!decide (inN (j+1) _ _ _ R k=0))=_
   rw [quf,hto,hmem]
   by_cases hkc:k=c
   ·subst hkc
    rw [if_pos rfl]
    simp only [jf] at hk
    simp [hk.1,hk.2]
   ·rw [if_neg hkc,show ((c:Int)==(k:Int))=false by simp;omega]
    simp
  have key2:(lvL lv j&&!decide (a ∈ R))=false→ledB ls lv (j+1) R M=ledB ls lv j R M:=by
   intro hk
   unfold ledB
   refine qhz fun k _=>?_
   show (!decide (inN (j+1) _ _ _ R k=0))=_
   rw [quf,hto,hmem,show (lvL lv j&&(((c:Int)==(k:Int))&&!decide (a ∈ R)))=false by
    cases h1:lvL lv j
    ·rfl
    ·rw [h1] at hk;simp only [jA] at hk;rw [hk];simp]
   simp
  simp only [qcz,qk hj,cond_true,qB (show j<lv.length by omega),qB hj,jd,ha,hc,i1,i2,wS j]
  cases h1:gt lv j
  ·simp only [cond_false,jd]
   have:=key2 (by unfold lvL;rw [h1];rfl)
   rw [this] at hX
   exact hX
  ·simp only [cond_true,jd]
   cases h2:decide (a ∈ R)
   ·simp only [Bool.not_false,cond_true]
    have:=key (by unfold lvL;rw [h1,h2];rfl)
    rw [this] at hX
    exact hX
   ·simp only [Jb,cond_false]
    have:=key2 (by unfold lvL;rw [h1,h2];rfl)
    rw [this] at hX
    exact hX
theorem qxI {ls:List qu} {lv:List Bool} {M:Nat} (h:LkOk ls M) {R:List Nat} :
  Ev (fun n=>qbY (M:Int) (inB R M) (ledB ls lv ls.length R M) n 0) (match nxtL ls lv M R with|some k=>(k:Int)|none=>(M:Int)):=by
 have hm:=h.nodes
 have main:∀ d j,j+d=M→(∀ i,i<j→freeN ls.length (frL ls) (toL ls) (lvL lv) R i=false) →
   Ev (fun n=>qbY (M:Int) (inB R M) (ledB ls lv ls.length R M) n (j:Int)) (match nxtL ls lv M R with|some k=>(k:Int)|none=>(M:Int)):=by
  intro d
  induction d with
  | zero =>
   intro j hj hn
   have hno:nxtL ls lv M R=none:=by
    show (List.range M).find? _=none
    rw [List.find?_eq_none]
    intro x hx
    rw [List.mem_range] at hx
    rw [hn x (by omega)];simp
   rw [hno]
   refine Ev.succ ?_
   simp only [qbY,ql (show M≤j by omega),cond_false]
   rw [show j=M by omega]
   exact .done
  | succ d ih =>
   intro j hj hn
   have hjM:j<M:=by omega
   have i1:idx (inB R M) (j:Int)=some (decide (j ∈ R)):=qiz (f:=fun k=>decide (k ∈ R)) hjM
   have i2:idx (ledB ls lv ls.length R M) (j:Int)=some (!decide (inL ls lv ls.length R j=0)):=qiz (f:=fun k=>!decide (inL ls lv ls.length R k=0)) hjM
   refine Ev.succ ?_
   simp only [qbY,qk hjM,cond_true,i1,i2,jd,wS j]
   have go:freeN ls.length (frL ls) (toL ls) (lvL lv) R j=false→Ev (fun n=>qbY (M:Int) (inB R M) (ledB ls lv ls.length R M) n ((j+1:Nat):Int)) (match nxtL ls lv M R with|some k=>(k:Int)|none=>(M:Int)):=fun hf =>
    ih (j+1) (by omega) fun i hi=>by
     by_cases hij:i=j
     ·rw [hij];exact hf
     ·exact hn i (by omega)
   cases h1:decide (j ∈ R)
   ·simp only [cond_false]
    cases h2:decide (inL ls lv ls.length R j=0)
    ·simp only [Bool.not_false,cond_true]
     exact go (by unfold freeN;rw [h1];show (!false&&decide (inL ls lv ls.length R j=0))=false;rw [h2];rfl)
    ·simp only [Jb,cond_false]
     have:nxtL ls lv M R=some j:=by
      show (List.range M).find? _=some j
      rw [List.find?_range_eq_some]
      refine ⟨?_,List.mem_range.2 hjM,fun i hi=>by rw [hn i hi];rfl⟩
      unfold freeN
      rw [h1]
      show (!false&&decide (inL ls lv ls.length R j=0))=true
      rw [h2];rfl
     rw [this]
     exact .done
   ·simp only [cond_true]
    exact go (by unfold freeN;rw [h1];rfl)
 exact main M 0 (by omega) (fun i hi=>absurd hi (by omega))
theorem qwv {ls:List qu} {lv:List Bool} {M:Nat} (h:LkOk ls M) (hl:lv.length=ls.length):Ev (fun n=>qhK n (M:Int) ls lv) (ordR ls lv M):=by
 have hm:=h.nodes
 have main:∀ m R,R.length+m=M→Ev (fun n=>qex (M:Int) ls lv n (inB R M) (ints R))
   (match ordL ls lv M m R with|some R'=>.nxt (inB R' M,ints R')|none=>.ret ([],false)):=by
  intro m
  induction m with
  | zero =>
   intro R hR
   refine Ev.succ ?_
   simp only [qex,qd3,ql (show M≤R.length by omega),cond_false]
   exact .done
  | succ m ih =>
   intro R hR
   refine Ev.succ ?_
   simp only [qex,qd3,qk (show R.length<M by omega),cond_true,qp4 (v:=false) (show M≤2147483648 by omega),jd]
   refine Ev.bind (qyL h hl) (Ev.bind (qxI h) ?_)
   show Ev _ (match (match nxtL ls lv M R with|none=>none|some k=>ordL ls lv M m (R++[k])) with|some R'=>_|none=>_)
   cases hn:nxtL ls lv M R with
   | none =>
    simp only [beq_self_eq_true,cond_true]
    exact .done
   | some k =>
    obtain ⟨hk,_,_⟩:=qpF hn
    have i1:idx (inB R M) (k:Int)=some (decide (k ∈ R)):=qiz (f:=fun k=>decide (k ∈ R)) hk
    have e1:setS (inB R M) (k:Int) true=inB (R++[k]) M:=by
     unfold inB
     rw [qo0]
     refine qhz fun i _=>?_
     by_cases hik:i=k
     ·subst hik;simp
     ·simp [hik]
    simp only [show ((k:Int)==(M:Int))=false by simp;omega,cond_false,i1,jd]
    rw [qdb (by rw [qd3,js];omega),e1,←qkE]
    exact ih (R++[k]) (by rw [jh,js];omega)
 have e0:pre (fun _=>false) M=inB [] M:=qhz fun k _=>by simp
 unfold qhK
 rw [qp4 (v:=false) (show M≤2147483648 by omega)]
 simp only [jd]
 rw [e0]
 refine Ev.bind (main M [] (by simp)) ?_
 unfold ordR
 cases ordL ls lv M M []<;>exact .done
def grV (ls:List qu) (lv:List Bool) (ps:List Tplace) (b:qg) (lo:List Int) (de:List (List Int)) (ex:List Int):Option Tgraph:=some ⟨some ⟨b,ps,ls,lo,de,ex⟩,lv⟩
theorem qto {xs:List Int} (hl:xs.length≤1000000):Ev (fun n=>qhq n xs 0) (ixL (fun y=>(0:Int)==y) xs) :=
 qfX (fin:=(xs.length:Int)) (Lf:=qcW xs 0) (pf:=fun _ y=>some ((0:Int)==y)) (fun _ _=>.done)
  (fun n=>by simp only [qcW,ql (je _),cond_false])
  (fun n j x hx=>by
   have hj:=(List.getElem?_eq_some_iff.1 hx).1
   simp only [qcW,qk hj,cond_true,qan hx,jd,wS j])
  (fun n=>by unfold qhq;congr 1;funext o;cases o<;>rfl)
theorem qyr {f:Nat→Int} {M:Nat} {p:Int→Bool}:ixL p (vecI f M)=match (List.range M).find? (fun k=>p (f k)) with|some k=>(k:Int)|none=>-1:=by
 cases hf:(List.range M).find? (fun k=>p (f k)) with
 | none =>
  have h1:(vecI f M).findIdx? p=none:=by
   rw [List.findIdx?_eq_none_iff]
   intro x hx
   obtain ⟨k,hk,rfl⟩:=List.mem_map.1 hx
   have:=List.find?_eq_none.1 hf k hk
   simpa using this
  unfold ixL
  rw [h1]
 | some k =>
  obtain ⟨h1,h2,h3⟩:=List.find?_range_eq_some.1 hf
  rw [List.mem_range] at h2
  have:=qsM (p:=p) (xs:=vecI f M) (j:=k) (by rw [qmb];exact h2) (by simpa [vecI] using h1) (fun i hi=>by
   have:=h3 i hi
   simpa [vecI] using this)
  rw [this]
section
variable {ls:List qu} {lv:List Bool} {M:Nat} {ps:List Tplace} {b:qg} {lo:List Int} {de:List (List Int)} {ex:List Int}
theorem qs4 (h:LkOk ls M) (hl:lv.length=ls.length):Ev (fun n=>qbg n (grV ls lv ps b lo de ex)) (ints (selN (lvL lv) ls.length)):=by
 have hll:=h.len
 have hL:Ev (fun n=>qF ⟨some ⟨b,ps,ls,lo,de,ex⟩,lv⟩ ⟨b,ps,ls,lo,de,ex⟩ n ([]:List Int) 0) (ints (selN (lvL lv) ls.length),(ls.length:Int)):=by
  refine qpI (q:=lvL lv) (Lf:=qF ⟨some ⟨b,ps,ls,lo,de,ex⟩,lv⟩ ⟨b,ps,ls,lo,de,ex⟩) (len:=ls.length) (by omega) (Ev.succ ?_) (fun j hj t ht X h1 h2=>?_)
  ·simp only [qF,ql (je _),cond_false];exact .done
  ·simp only [qF,qk hj,cond_true,qB hj,qB (show j<lv.length by omega),jd,qh9,ht,wS j]
   cases hq:gt lv j
   ·simp only [cond_false];exact h2 hq
   ·simp only [cond_true];exact h1 hq
 unfold qbg grV
 simp only [jd]
 exact Ev.bind hL .done
theorem qyq (h:LkOk ls M) (hl:lv.length=ls.length) {v:Int}:Ev (fun n=>qh3 n (grV ls lv ps b lo de ex) v) (ints (selN (fun x=>lvL lv x&&(frL ls x==v)) ls.length)):=by
 have hll:=h.len
 have hL:Ev (fun n=>qH v ⟨some ⟨b,ps,ls,lo,de,ex⟩,lv⟩ ⟨b,ps,ls,lo,de,ex⟩ n ([]:List Int) 0) (ints (selN (fun x=>lvL lv x&&(frL ls x==v)) ls.length),(ls.length:Int)):=by
  refine qpI (q:=fun x=>lvL lv x&&(frL ls x==v)) (Lf:=qH v ⟨some ⟨b,ps,ls,lo,de,ex⟩,lv⟩ ⟨b,ps,ls,lo,de,ex⟩) (len:=ls.length) (by omega) (Ev.succ ?_) (fun j hj t ht X h1 h2=>?_)
  ·simp only [qH,ql (je _),cond_false];exact .done
  ·simp only [qH,qk hj,cond_true,qB hj,qB (show j<lv.length by omega),jd,qiI,ht,wS j]
   unfold lvL frL at h1 h2
   cases hq:gt lv j
   ·simp only [cond_false];exact h2 (by rw [hq];rfl)
   ·simp only [cond_true]
    cases hw:(gt ls j).Bk==v
    ·simp only [cond_false];exact h2 (by rw [hq,hw];rfl)
    ·simp only [cond_true];exact h1 (by rw [hq,hw];rfl)
 unfold qh3 qci grV
 simp only [jd]
 exact Ev.bind (Ev.bind hL .done) .done
theorem qxH {q:Nat→Bool} {m:Nat} {p:Nat→Bool}:(selN q m).countP p=cntP (fun x=>q x&&p x) m:=by
 induction m with
 | zero=>rfl
 | succ m ih =>
  rw [qnY,List.countP_append,ih]
  show _=cntP (fun x=>q x&&p x) m+(bif (q m&&p m) then 1 else 0)
  cases q m
  ·rfl
  ·cases hp:p m<;>simp [hp]
def cntT (ls:List qu) (S:List Nat) (k:Nat):Nat:=S.countP (fun x=>toL ls x==(k:Int))
theorem qvY {S:List Nat} {k:Nat}:cntT ls S k≤S.length:=List.countP_le_length
theorem qwS {S:List Nat} {j k:Nat} (hj:j<S.length):cntT ls (S.take (j+1)) k=cntT ls (S.take j) k+(if toL ls S[j]=(k:Int) then 1 else 0):=by
 unfold cntT
 rw [jv hj,List.countP_append]
 by_cases h:toL ls S[j]=(k:Int)<;>simp [h]
theorem bumpV {f:Nat→Int} {c:Nat} {S:List Nat} {j:Nat} {d v:Int} (hj:j<S.length) (hc:toL ls S[j]=(c:Int)) (hv:v=f c+d*(cntT ls (S.take j) c:Int)+d) :
  setS (vecI (fun k=>f k+d*(cntT ls (S.take j) k:Int)) M) (c:Int) v=vecI (fun k=>f k+d*(cntT ls (S.take (j+1)) k:Int)) M:=by
 rw [qq3]
 refine qfr fun k _=>?_
 rw [qwS hj,hc]
 by_cases hk:k=c
 ·subst hk
  rw [if_pos rfl,if_pos rfl,hv]
  rw [Int.natCast_add,Int.mul_add];omega
 ·rw [if_neg hk,if_neg (by omega)]
  simp
theorem qzX (h:LkOk ls M) {S:List Nat} (hS:∀ x,x ∈ S→x<ls.length) (hn:S.length≤10000) :
  Ev (fun n=>qb4 ⟨some ⟨b,ps,ls,lo,de,ex⟩,lv⟩ (ints S) n (vecI (fun _=>0) M) 0) (vecI (fun k=>(cntT ls S k:Int)) M,(S.length:Int)):=by
 have:=loopF (Lf:=qb4 ⟨some ⟨b,ps,ls,lo,de,ex⟩,lv⟩ (ints S)) (S:=fun j=>vecI (fun k=>0+1*(cntT ls (S.take j) k:Int)) M) (len:=S.length) (fin:=(vecI (fun k=>(cntT ls S k:Int)) M,(S.length:Int))) (fun n=>by
   simp only [qb4,qd3,ql (je _),cond_false,jD]
   rw [qfr (f:=fun k=>0+1*(cntT ls S k:Int)) (g:=fun k=>(cntT ls S k:Int)) (fun k _=>by omega)])
  (fun j hj X hX=>by
   have hx:=hS S[j] (jp hj)
   obtain ⟨c,hc⟩:∃ c:Nat,(gt ls S[j]).To=(c:Int):=⟨_,qeD (h.to0 _ hx)⟩
   have hc1:c<M:=by have:=h.to1 _ hx;omega
   have hle:=qvY (ls:=ls) (S:=S.take j) (k:=c)
   rw [jI] at hle
   simp only [qb4,qd3,qk hj,cond_true,qpi hj,jd,qB hx,hc,qnI hc1,wS j]
   rw [qN (by omega) (by omega),bumpV (d:=1) hj hc (by omega)]
   exact hX)
 rw [qfr (f:=fun k=>0+1*(cntT ls (S.take 0) k:Int)) (g:=fun _=>0) (fun k _=>by unfold cntT;simp)] at this
 exact this
theorem qxU (h:LkOk ls M) {S:List Nat} {f:Nat→Int} (hS:∀ x,x ∈ S→x<ls.length) (hn:S.length≤10000) (hf:∀ k,k<M→-1≤f k∧f k≤10000) :
  Ev (fun n=>qb5 ⟨some ⟨b,ps,ls,lo,de,ex⟩,lv⟩ (ints S) n (vecI f M) 0) (vecI (fun k=>f k-(cntT ls S k:Int)) M,(S.length:Int)):=by
 have:=loopF (Lf:=qb5 ⟨some ⟨b,ps,ls,lo,de,ex⟩,lv⟩ (ints S)) (S:=fun j=>vecI (fun k=>f k+(-1)*(cntT ls (S.take j) k:Int)) M) (len:=S.length) (fin:=(vecI (fun k=>f k-(cntT ls S k:Int)) M,(S.length:Int))) (fun n=>by
   simp only [qb5,qd3,ql (je _),cond_false,jD]
   rw [qfr (f:=fun k=>f k+(-1)*(cntT ls S k:Int)) (g:=fun k=>f k-(cntT ls S k:Int)) (fun k _=>by omega)])
  (fun j hj X hX=>by
   have hx:=hS S[j] (jp hj)
   obtain ⟨c,hc⟩:∃ c:Nat,(gt ls S[j]).To=(c:Int):=⟨_,qeD (h.to0 _ hx)⟩
   have hc1:c<M:=by have:=h.to1 _ hx;omega
   have hle:=qvY (ls:=ls) (S:=S.take j) (k:=c)
   rw [jI] at hle
   have hfc:=hf c hc1
   simp only [qb5,qd3,qk hj,cond_true,qpi hj,jd,qB hx,hc,qnI hc1,wS j]
   rw [qN (by omega) (by omega),bumpV (d:=-1) hj hc (by omega)]
   exact hX)
 rw [qfr (f:=fun k=>f k+(-1)*(cntT ls (S.take 0) k:Int)) (g:=f) (fun k _=>by unfold cntT;simp)] at this
 exact this
def openV (ls:List qu) (lv:List Bool) (R:List Nat) (k:Nat):Int:=if k ∈ R then -1 else (inL ls lv ls.length R k:Int)
theorem qwo {R:List Nat}:ixL (fun y=>(0:Int)==y) (vecI (openV ls lv R) M)=match nxtL ls lv M R with|some k=>(k:Int)|none=>-1:=by
 rw [qyr]
 have:(fun k=>((0:Int)==openV ls lv R k))=freeN ls.length (frL ls) (toL ls) (lvL lv) R:=by
  funext k
  unfold openV freeN
  by_cases hk:k ∈ R
  ·rw [if_pos hk];simp [hk]
  ·rw [if_neg hk]
   simp only [hk,decide_false,Bool.not_false,jA]
   by_cases h0:inL ls lv ls.length R k=0
   ·simp [h0]
   ·rw [show ((0:Int)==((inL ls lv ls.length R k:Nat):Int))=false from beq_eq_false_iff_ne.2 (by omega)]
    simpa using h0
 rw [this]
 rfl
theorem qwe (h:LkOk ls M) (hl:lv.length=ls.length) (hM:M=2*ps.length):Ev (fun n=>qhr n (grV ls lv ps b lo de ex)) (ordR ls lv M):=by
 have hm:=h.nodes
 have hll:=h.len
 have main:∀ m R,R.length+m=M→Closed ls.length (frL ls) (toL ls) (lvL lv) R→∃ y:List Int × List Int × Int,Ev (fun n=>qb6 (grV ls lv ps b lo de ex) ⟨some ⟨b,ps,ls,lo,de,ex⟩,lv⟩ (vecI (fun _=>0) M) n (ints R) (vecI (openV ls lv R) M) (R.length:Int))
   (match ordL ls lv M m R with|some R'=>.nxt (ints R',y.2.1,y.2.2)|none=>.ret ([],false)):=by
  intro m
  induction m with
  | zero =>
   intro R hR _
   refine ⟨(ints R,vecI (openV ls lv R) M,(R.length:Int)),Ev.succ ?_⟩
   simp only [qb6,qmb,ql (show M≤R.length by omega),cond_false]
   exact .done
  | succ m ih =>
   intro R hR hC
   have hix:=qto (xs:=vecI (openV ls lv R) M) (by rw [qmb];omega)
   rw [qwo] at hix
   cases hn:nxtL ls lv M R with
   | none =>
    rw [hn] at hix
    rw [qwW hn]
    refine ⟨([],[],0),Ev.succ ?_⟩
    simp only [qb6,qmb,qk (show R.length<M by omega),cond_true]
    exact Ev.bind hix (Ev.tt (by decide) .done)
   | some k =>
    rw [hn] at hix
    rw [qwx hn]
    obtain ⟨hk,hkR,h0⟩:=qpF hn
    obtain ⟨y,hy⟩:=ih (R++[k]) (by rw [jh,js];omega) (hC.snoc h0)
    refine ⟨y,Ev.succ ?_⟩
    simp only [qb6,qmb,qk (show R.length<M by omega),cond_true]
    refine Ev.bind hix (Ev.ff (by simp) ?_)
    rw [qnI hk,qdb (by rw [qd3,js];omega),qq3,←qkE]
    simp only [jd]
    refine Ev.bind (qyq h hl) ?_
    have hsl:=qoR (q:=fun x=>lvL lv x&&(frL ls x==(k:Int))) (j:=ls.length)
    refine Ev.bind (qxU h (fun x hx=>(qo5.1 hx).1) (by omega) (fun i hi=>?_)) ?_
    ·split
     ·omega
     ·unfold openV
      have:inL ls lv ls.length R i≤ls.length:=qzR
      split<;>omega
    ·have e2:vecI (fun i=>(if i=k then -1 else openV ls lv R i)-(cntT ls (selN (fun x=>lvL lv x&&(frL ls x==(k:Int))) ls.length) i:Int)) M=vecI (openV ls lv (R++[k])) M:=by
      refine qfr fun i _=>?_
      have ec:cntT ls (selN (fun x=>lvL lv x&&(frL ls x==(k:Int))) ls.length) i=lkN ls.length (frL ls) (toL ls) (lvL lv) k i:=qxH
      rw [ec]
      unfold openV
      by_cases hiR:i ∈ R++[k]
      ·rw [if_pos hiR,hC.no_back hkR h0 hiR]
       rcases List.mem_append.1 hiR with h1|h1
       ·split
        ·rfl
        ·rfl
       ·rw [if_pos (List.mem_singleton.1 h1)];rfl
      ·have h1:i ∉ R:=fun e=>hiR (List.mem_append_left _ e)
       have h2:i ≠ k:=fun e=>hiR (List.mem_append_right _ (List.mem_singleton.2 e))
       rw [if_neg hiR,if_neg h2,if_neg h1]
       have:=qxk (L:=ls.length) (fr:=frL ls) (to:=toL ls) (lv:=lvL lv) (R:=R) (i:=k) (k:=i) hkR
       show (inN _ _ _ _ R i:Int)-_=(inN _ _ _ _ (R++[k]) i:Int)
       omega
     rw [e2,qde (show R.length<9223372036854775807 by omega)]
     rw [jh,js] at hy
     exact hy
 have hup:=qzX (b:=b) (ps:=ps) (lo:=lo) (de:=de) (ex:=ex) (lv:=lv) h (S:=selN (lvL lv) ls.length) (fun x hx=>(qo5.1 hx).1) (by have:=qoR (q:=lvL lv) (j:=ls.length);omega)
 have e0:vecI (fun k=>(cntT ls (selN (lvL lv) ls.length) k:Int)) M=vecI (openV ls lv []) M:=by
  refine qfr fun k _=>?_
  unfold openV
  rw [if_neg (by simp)]
  congr 1
  show List.countP _ _=inN _ _ _ _ [] k
  rw [qxH]
  unfold inN
  exact qrk fun x _=>by simp [ints]
 rw [e0] at hup
 obtain ⟨y,hy⟩:=main M [] (by simp) Closed.nil
 unfold qhr
 show Ev (fun n=>(some _).bind _) _
 simp only [jd,qck,qef]
 rw [qN (by omega) (by omega),show 2*(ps.length:Int)=(M:Int) by omega,qsR (by omega)]
 simp only [jd]
 refine Ev.bind (qs4 h hl) (Ev.bind hup (Ev.bind hy ?_))
 unfold ordR
 cases ordL ls lv M M []<;>exact .done
end
end Go.Fw
