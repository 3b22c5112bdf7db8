/- By a program of mine (gen.py): for each function a plain function and the proof that the code computes it. -/
import Derived.Test.YtanbjhnkfiipnaaGreatDoorU1
open Option renaming bind_some → je
open Nat renaming le_refl → jf, mul_le_mul_right → jo, le_of_ble_eq_true → jp, lt_of_lt_of_le → jr, succ_mul → jB, zero_le → jJ, le_trans → jN, zero_add → jQ
open Bool renaming and_eq_true → jg, eq_iff_iff → jk, not_eq_true' → jA, true_and → jF
open Go.Result renaming andThen_ok → jh
open List renaming length_append → ji, length_singleton → jj, getElem?_eq_getElem → jn, getElem_mem → jq, mem_cons_of_mem → js, mem_cons_self → jt, mem_of_getElem? → ju, getD_eq_getElem?_getD → jw, getElem?_append_left → jx, not_mem_nil → jy, eq_nil_of_length_eq_zero → jz, getElem?_take → jC, getElem?_toArray → jD, getElem?_append_right → jE, length_map → jG, mem_cons → jH, getElem_of_mem → jI, size_toArray → jL, append_nil → jM, append_assoc → jO, all_eq_true → jP
open Go.Sem renaming run_bind → jl, run_pure → jm
open Int renaming toNat_natCast → jv
open Array renaming getElem?_append_left → jK

namespace Go.Fw
open Go Go.Proofs
open Go.RowKit (Below)
set_option maxRecDepth 100000
set_option maxHeartbeats 6400000
variable {n:Nat} {w:World} {cs1 cs2 cs3 cs4 cs5 cs6 cs7 cs8 cs9:List Value}
def qjU (_:Nat) (code:(List (IntK .u8))):Option Bool :=
 some (decide ((code.length:Int) > 4096))
theorem qlN {code:(List (IntK .u8))} (ha1:GoT.R w (old w) code cs1) {r:Bool} (hF:qjU n code=some r):RetV Tryz.prog 7 [GoT.v (List (IntK .u8)) cs1] w r:=by
 obtain ⟨p1,k1,rfl,s1⟩:=ha1
 exact zV 6 Tryz.func7 rfl fun h=>X0 11 rfl (rb h hF rfl)
def qbc (a_0:(List (IntK .u8))) (x2:(List Int)):Nat→qd→Int→Option (Flow Bool (qd × Int))
 | 0,_,_=>none
 | n+1,r34,i3 =>
  bif decide (i3<(x2.length:Int)) then
   (idx x2 i3).bind fun y4 =>
   (qd4 n r34 ([y4]:List Int)).bind fun r35 =>
   (qW n a_0).bind fun o=>match o with
    | (r37,_) =>
     bif (!r35) then some (.ret false) else
     qbc a_0 x2 n r37 (W64 (i3+1))
  else
   some (.nxt (r34,i3))
def qaV (a_0:(List (IntK .u8))) (r6:(List Int)):Nat→qd→Int→Int→Option (Flow Bool (qd × Int × Int))
 | 0,_,_,_=>none
 | n+1,r17,i1,i2 =>
  bif decide (i2<(r6.length:Int)) then
   (idx r6 i2).bind fun y1 =>
   (qd4 n r17 ([i1,y1]:List Int)).bind fun r18 =>
   (qW n a_0).bind fun o=>match o with
    | (r20,r21) =>
     bif (!r18) then some (.ret false) else
     bif decide (i2 > 0) then
      (idx r6 (W64 (i2-1))).bind fun y2 =>
      (idx r6 i2).bind fun y3 =>
      bif decide (y2 ≥ y3) then some (.ret false) else
      qaV a_0 r6 n r20 r21 (W64 (i2+1))
     else
      qaV a_0 r6 n r20 r21 (W64 (i2+1))
  else
   some (.nxt (r17,i1,i2))
def qfx (n:Nat) (a_0:(List (IntK .u8))):Option Bool :=
 (qjU n a_0).bind fun r1 =>
 bif r1 then some true else
 (qW n a_0).bind fun o=>match o with
  | (r3,r4) =>
   (qdu n r3 r4).bind fun o=>match o with
    | (r6,r7) =>
     (qW n a_0).bind fun o=>match o with
      | (r9,r10) =>
       bif (r7 != 0) then
        (qcu n r9 r10).bind fun o=>match o with
         | (_,r13) =>
          (
           bif (r7==r13) then some ((r6.length:Int)==0) else
           some false).bind fun b1 =>
          some b1
       else
        (qcu n r9 r10).bind fun o=>match o with
         | (r15,_) =>
          bif ((r6.length:Int) != (r15.length:Int)) then some false else
          (qaV a_0 r6 n r9 r10 0).bind fun o=>match o with
          | .ret r=>some r
          | .nxt (r17,_,_) =>
           (qew n r17).bind fun o=>match o with
            | (r23,r24) =>
             (qW n a_0).bind fun o=>match o with
              | (r26,_) =>
               (qe9 n r26).bind fun o=>match o with
                | (r29,r30) =>
                 (qW n a_0).bind fun o=>match o with
                  | (r32,_) =>
                   (
                    bif (r24 != 0) then some true else
                    some (r30 != 0)).bind fun b5 =>
                   bif b5 then some false else
                   (appS ([]:List Int) r23).bind fun x1 =>
                   (appS x1 r29).bind fun x2 =>
                   (qbc a_0 x2 n r32 0).bind fun o=>match o with
                   | .ret r=>some r
                   | .nxt (_,_) =>
                    some true
theorem qif {a_0:(List (IntK .u8))} (ha1:GoT.R w (old w) a_0 cs1) {r:Bool} (hF:qfx n a_0=some r):RetV Tryz.prog 3 [GoT.v (List (IntK .u8)) cs1] w r:=by
 obtain ⟨p1,k1,rfl,s1⟩:=ha1
 refine zV 153 Tryz.func3 rfl fun h=>X0 8 rfl (zcB h hF (qlN ⟨_,_,rfl,(h.oldS s1)⟩) rfl fun r1 w1 h hF=>qbs (qr rfl hF ?_ ?_))<;>intro hF
 ·exact X0 4 rfl (rb h hF rfl)
 refine X0 4 rfl ?_
 have hg1:Rg (old w) w (old w) w:=.start (fun _ h=>h)
 obtain ⟨r2,hr2,hF⟩:=qe hF
 obtain ⟨r3,r4⟩:=r2
 refine qfI (r3,r4) hg1 h (cB 8 rfl) (qaE (hg1.atB h) ⟨_,_,rfl,(hg1.inBS h s1)⟩ hr2) rfl rfl rfl rfl fun w2 us1 S1 h hv1=>?_
 obtain ⟨cs2,us2,rfl,hr3,hv2⟩:=qh1 hv1
 have hr4:=hr3
 obtain ⟨p2,k2,p3,k3,p4,k4,p5,k5,p6,k6,rfl,s2,s3,s4,s5,s6⟩:=qP hr3
 replace h:=h.grpAdd 0 rfl hr4
 obtain ⟨cs3,rfl,hr5⟩:=qeY hv2
 have hr6:=hr5
 obtain rfl:=hr5
 refine zp3 rfl (qy qa h rfl rfl rfl fun w3 bb1 h=>zs 0 h rfl fun w4 h=>X1 6 0 h rfl ?_)
 obtain ⟨r5,hr7,hF⟩:=qe hF
 obtain ⟨r6,r7⟩:=r5
 refine qep (r6,r7) h (cB 9 rfl) (qg6 (h.grp 1 0 rfl rfl) hr7) rfl rfl rfl rfl fun w5 S2 us3 hv3 hr8=>?_
 obtain ⟨S3,S4,p7,k7,us4,rfl,hv4,hr9⟩:=hv3.consL hr8
 obtain ⟨rfl,h⟩:=hv4.lastI hr9
 refine X0 9 rfl ?_
 obtain ⟨r8,hr11,hF⟩:=qe hF
 obtain ⟨r9,r10⟩:=r8
 refine qfI (r9,r10) hg1 h (cB 8 rfl) (qaE (hg1.atB h) ⟨_,_,rfl,(hg1.inBS h s1)⟩ hr11) rfl rfl rfl rfl fun w6 us5 S6 h hv6=>?_
 obtain ⟨cs4,us6,rfl,hr12,hv7⟩:=qh1 hv6
 have hr13:=hr12
 obtain ⟨p8,k8,p9,k9,p10,k10,p11,k11,p12,k12,rfl,s7,s8,s9,s10,s11⟩:=qP hr12
 replace h:=h.grpAdd 0 rfl hr13
 obtain ⟨cs5,rfl,hr14⟩:=qeY hv7
 have hr15:=hr14
 obtain rfl:=hr14
 refine zp3 rfl (zs 2 h rfl fun w7 h=>X0 8 rfl (qr rfl hF ?_ ?_))<;>intro hF
 ·refine X1 4 2 h rfl ?_
  obtain ⟨r11,hr16,hF⟩:=qe hF
  obtain ⟨r12,r13⟩:=r11
  refine qep (r12,r13) h (cB 10 rfl) (qfc (h.grp 0 0 rfl rfl) hr16) rfl rfl rfl rfl fun w8 S7 us7 hv8 hr17=>?_
  obtain ⟨S8,S9,p13,k13,us8,rfl,hv9,hr18⟩:=hv8.consL hr17
  obtain ⟨rfl,h⟩:=hv9.lastI hr18
  refine X0 7 rfl ?_
  obtain ⟨KF1,hKF1,o1,hF,hK1⟩:=bindE hF
  refine qb5 (fun e w'=>∃ (b1:Bool),KF1 b1=some r∧e=[(2,.bool b1)]∧SH w w' []) ?_ ?_
  ·refine X0 5 rfl (qh (t:=49) hF rfl ?_ ?_)<;>intro hF
   ·refine X0 9 rfl ?_
    replace h:=h.pick [0,1,2,3] rfl
    replace h:=h.pick [] rfl
    obtain rfl:=qb hF
    exact rG ⟨_,hK1,rfl,h⟩ rfl
   refine X0 6 rfl ?_
   replace h:=h.pick [0,1,2,3] rfl
   replace h:=h.pick [] rfl
   obtain rfl:=qb hF
   exact rG ⟨_,hK1,rfl,h⟩ rfl
  rintro e1 w9 ⟨b1,hF,rfl,h⟩
  subst hKF1
  exact rb h hF rfl
 refine X1 5 2 h rfl ?_
 obtain ⟨r14,hr20,hF⟩:=qe hF
 obtain ⟨r15,r16⟩:=r14
 refine qep (r15,r16) h (cB 10 rfl) (qfc (h.grp 0 0 rfl rfl) hr20) rfl rfl rfl rfl fun w10 S11 us9 hv11 hr21=>?_
 obtain ⟨S12,S13,p14,k14,us10,rfl,hv12,hr22⟩:=hv11.consL hr21
 obtain ⟨rfl,h⟩:=hv12.lastI hr22
 refine X0 15 rfl (qr rfl hF ?_ ?_)<;>intro hF
 ·refine X0 4 rfl ?_
  replace h:=h.pick [0,2,3] rfl
  exact rb h hF rfl
 refine X0 6 rfl ?_
 replace h:=h.pick [0,1,2,3] rfl
 obtain ⟨o2,hF,hK2⟩:=qe hF
 refine qq ?_
 replace h:=h.pick [1,2,3] rfl
 refine rL (fun m e w'=>∃ (S15:Nat→Prop) (r17:qd) (p15:Option Addr) (k15:Nat) (p16:Option Addr) (k16:Nat) (p17:Option Addr) (k17:Nat) (p18:Option Addr) (k18:Nat) (p19:Option Addr) (k19:Nat) (i1:Int) (i2:Int),qaV a_0 r6 m r17 i1 i2=some o2∧e=[(0,.slice p1 a_0.length k1),(3,.pointer (some ⟨bb1,0,none⟩)),(4,.int .i64 i1),(5,.slice p7 r6.length k7),(11,.int .i64 i2)]∧SH w w' [Ch.grp (old w) S15 [fct (r17:qd) [.slice p15 r17.Ac.Ak.length k15,.slice p16 r17.Aa.Ab.length k16,.slice p17 r17.Aa.Ai.length k17,.slice p18 r17.Aa.Af.length k18,.slice p19 r17.Ah.length k19]],Ch.own S3 (r6:List Int) [.slice p7 r6.length k7],Ch.box bb1 (qT r17 p15 p16 p17 p18 p19 k15 k16 k17 k18 k19) 34]) n ⟨_,_,_,_,_,_,_,_,_,_,_,_,_,_,hF,rfl,h⟩ rfl ?_
 rintro m1 e2 w11 ⟨S15,r17,p15,k15,p16,k16,p17,k17,p18,k18,p19,k19,i1,i2,hF,rfl,h⟩
 rcases m1 with _|m1
 ·cases hF
 refine X0 8 rfl (qr rfl hF ?_ ?_)<;>intro hF
 ·refine X0 4 rfl (rA [] [1,2] h rfl fun w12 h=>M1 15 [0,1,2,3] 1 (h.pick [1,2] rfl) rfl ?_)
  obtain ⟨y1,hy1,hF,he1,b2,_,q1,cs6,hp1,hq1,rfl,hc5⟩:=(h.sl 1 rfl).1.ix hF
  refine Ax 4 31 hp1 hq1 ⟨he1.1,qY he1.2.1 (h.sl 1 rfl).2⟩ (h.pick [1,2] rfl) rfl (Aw 5 63 (fun w' hw=>qfq qa (qcj (w1:=w) (S1:=fun _=>False) hw 0 rfl hy1 hp1 hq1 rfl) (j:=0) rfl rfl rfl) (h.pick [1,2] rfl) rfl ?_)
  refine Ao 6 127 rfl (qp qa [.tmp 72,.tmp 76] _ ([i1,y1]:List Int) h rfl rfl rfl rfl rfl rfl rfl rfl rfl ⟨rfl,rfl,trivial⟩ rfl fun w13 p20 S16 h=>Ag (h.pick [2,3] rfl) (Ao 7 255 rfl (zcB h hF (qgo (h.grp 1 0 rfl rfl) (h.own 0 rfl)) rfl fun r18 w14 h hF=>G0 511 [8] (h.pick [2,3] rfl) rfl (Ad (X0 3 rfl ?_)))))
  obtain ⟨r19,hr26,hF⟩:=qe hF
  obtain ⟨r20,r21⟩:=r19
  refine qfI (r20,r21) hg1 h (cB 8 rfl) (qaE (hg1.atB h) ⟨_,_,rfl,(hg1.inBS h s1)⟩ hr26) rfl rfl rfl rfl fun w15 us11 S17 h hv14=>?_
  obtain ⟨cs7,us12,rfl,hr27,hv15⟩:=qh1 hv14
  have hr28:=hr27
  obtain ⟨p21,k20,p22,k21,p23,k22,p24,k23,p25,k24,rfl,s12,s13,s14,s15,s16⟩:=qP hr27
  replace h:=h.grpAdd 0 rfl hr28
  obtain ⟨cs8,rfl,hr29⟩:=qeY hv15
  have hr30:=hr29
  obtain rfl:=hr29
  refine zp3 rfl (zs 4 h rfl fun w16 h=>X0 3 rfl (rD (zd3 rfl (qaT (t:=86) hF rfl ?_ ?_))))<;>intro hF
  ·refine Y0 15 rfl (dN h fun w17 h=>qdR rfl rfl (X0 4 rfl ?_))
   replace h:=h.pick [1,3,4] rfl
   obtain rfl:=qb hF;replace hF:=hK2
   exact rb h hF rfl
  refine Y0 6 rfl (qaT (t:=89) hF rfl ?_ ?_)<;>intro hF
  ·refine Y0 7 rfl ?_
   obtain ⟨y2,hy2,hF,he2,b3,_,q2,cs9,hp2,hq2,rfl,hc6⟩:=(h.sl 3 rfl).1.ix hF
   refine zdx hp2 hq2 ⟨he2.1,qY he2.2.1 (h.sl 3 rfl).2⟩ rfl (Y0 1 rfl (zdc 0 hc6 rfl (Y0 5 rfl ?_)))
   obtain ⟨y3,hy3,hF,he3,b4,_,q3,cs10,hp3,hq3,rfl,hc7⟩:=(h.sl 3 rfl).1.ix hF
   refine zdx hp3 hq3 ⟨he3.1,qY he3.2.1 (h.sl 3 rfl).2⟩ rfl (Y0 1 rfl (zdc 0 hc7 rfl (Y0 5 rfl (dN h fun w18 h=>qr rfl hF ?_ ?_))))<;>intro hF
   ·refine X0 4 rfl ?_
    replace h:=h.pick [1,3,4] rfl
    obtain rfl:=qb hF;replace hF:=hK2
    exact rb h hF rfl
   refine X0 7 rfl ?_
   replace h:=h.pick [0,1,3,4] rfl
   replace h:=h.pick [0,2,3] rfl
   exact rK ⟨_,_,_,_,_,_,_,_,_,_,_,_,_,_,hF,rfl,h⟩ rfl
  refine Y0 13 rfl (dN h fun w19 h=>qdx rfl rfl (X0 7 rfl ?_))
  replace h:=h.pick [0,1,3,4] rfl
  replace h:=h.pick [0,2,3] rfl
  exact rK ⟨_,_,_,_,_,_,_,_,_,_,_,_,_,_,hF,rfl,h⟩ rfl
 refine qw rfl ?_
 obtain rfl:=qb hF;replace hF:=hK2
 refine X1 3 2 h rfl ?_
 obtain ⟨r22,hr33,hF⟩:=qe hF
 obtain ⟨r23,r24⟩:=r22
 refine qep (r23,r24) h (cB 12 rfl) (qia (h.grp 0 0 rfl rfl) hr33) rfl rfl rfl rfl fun w20 S18 us13 hv16 hr34=>?_
 obtain ⟨S19,S20,p26,k25,us14,rfl,hv17,hr35⟩:=hv16.consL hr34
 obtain ⟨rfl,h⟩:=hv17.lastI hr35
 refine X0 9 rfl ?_
 obtain ⟨r25,hr37,hF⟩:=qe hF
 obtain ⟨r26,r27⟩:=r25
 refine qfI (r26,r27) hg1 h (cB 8 rfl) (qaE (hg1.atB h) ⟨_,_,rfl,(hg1.inBS h s1)⟩ hr37) rfl rfl rfl rfl fun w21 us15 S22 h hv19=>?_
 obtain ⟨cs11,us16,rfl,hr38,hv20⟩:=qh1 hv19
 have hr39:=hr38
 obtain ⟨p27,k26,p28,k27,p29,k28,p30,k29,p31,k30,rfl,s17,s18,s19,s20,s21⟩:=qP hr38
 replace h:=h.grpAdd 0 rfl hr39
 obtain ⟨cs12,rfl,hr40⟩:=qeY hv20
 have hr41:=hr40
 obtain rfl:=hr40
 refine zp3 rfl (zs 4 h rfl fun w22 h=>X1 5 4 h rfl ?_)
 obtain ⟨r28,hr42,hF⟩:=qe hF
 obtain ⟨r29,r30⟩:=r28
 refine qep (r29,r30) h (cB 13 rfl) (qiQ (h.grp 0 0 rfl rfl) hr42) rfl rfl rfl rfl fun w23 S23 us17 hv21 hr43=>?_
 obtain ⟨S24,S25,p32,k31,us18,rfl,hv22,hr44⟩:=hv21.consL hr43
 obtain ⟨rfl,h⟩:=hv22.lastI hr44
 refine X0 9 rfl ?_
 obtain ⟨r31,hr46,hF⟩:=qe hF
 obtain ⟨r32,r33⟩:=r31
 refine qfI (r32,r33) hg1 h (cB 8 rfl) (qaE (hg1.atB h) ⟨_,_,rfl,(hg1.inBS h s1)⟩ hr46) rfl rfl rfl rfl fun w24 us19 S27 h hv24=>?_
 obtain ⟨cs13,us20,rfl,hr47,hv25⟩:=qh1 hv24
 have hr48:=hr47
 obtain ⟨p33,k32,p34,k33,p35,k34,p36,k35,p37,k36,rfl,s22,s23,s24,s25,s26⟩:=qP hr47
 replace h:=h.grpAdd 0 rfl hr48
 obtain ⟨cs14,rfl,hr49⟩:=qeY hv25
 have hr50:=hr49
 obtain rfl:=hr49
 refine zp3 rfl (zs 6 h rfl fun w25 h=>X0 4 rfl ?_)
 obtain ⟨KF2,hKF2,o4,hF,hK4⟩:=bindE hF
 refine qb5 (fun e w'=>∃ (b5:Bool),KF2 b5=some r∧e=[(0,.slice p1 a_0.length k1),(3,.pointer (some ⟨bb1,0,none⟩)),(13,.slice p26 r23.length k25),(15,.slice p32 r29.length k31),(127,.bool b5)]∧SH w w' [Ch.grp (old w) S27 [fct (r32:qd) [.slice p33 r32.Ac.Ak.length k32,.slice p34 r32.Aa.Ab.length k33,.slice p35 r32.Aa.Ai.length k34,.slice p36 r32.Aa.Af.length k35,.slice p37 r32.Ah.length k36]],Ch.own S24 (r29:List Int) [.slice p32 r29.length k31],Ch.own S19 (r23:List Int) [.slice p26 r23.length k25],Ch.box bb1 (qT r32 p33 p34 p35 p36 p37 k32 k33 k34 k35 k36) 34]) ?_ ?_
 ·refine X0 4 rfl (qh (t:=124) hF rfl ?_ ?_)<;>intro hF
  ·refine X0 4 rfl ?_
   replace h:=h.pick [0,1,3,4,5,6] rfl
   replace h:=h.pick [0,1,2,4,5] rfl
   replace h:=h.pick [0,1,2,4] rfl
   obtain rfl:=qb hF
   exact rG ⟨_,hK4,rfl,h⟩ rfl
  refine X0 6 rfl ?_
  replace h:=h.pick [0,1,3,4,5,6] rfl
  replace h:=h.pick [0,1,2,4,5] rfl
  replace h:=h.pick [0,1,2,4] rfl
  obtain rfl:=qb hF
  exact rG ⟨_,hK4,rfl,h⟩ rfl
 rintro e4 w35 ⟨b5,hF,rfl,h⟩
 subst hKF2
 refine qr rfl hF ?_ ?_<;>intro hF
 ·refine X0 4 rfl ?_
  replace h:=h.pick [1,2,3] rfl
  exact rb h hF rfl
 refine zKSR (qp qa [] _ ([]:List Int) h rfl rfl rfl rfl rfl rfl rfl rfl rfl trivial rfl fun w26 p38 S28 h=>zp1 rfl ?_)
 obtain ⟨x1,hx1,hF⟩:=qe hF
 obtain ⟨g1,hx1⟩:=qx hx1
 refine qaq qa 0 h rfl (h.sl 3 rfl).1 (h.sl 3 rfl).2 rfl rfl rfl rfl rfl rfl rfl rfl rfl g1 hx1 rfl fun w27 p39 k37 S29 h=>zp1 rfl ?_
 obtain ⟨x2,hx2,hF⟩:=qe hF
 obtain ⟨g2,hx2⟩:=qx hx2
 refine qaq qa 0 h rfl (h.sl 2 rfl).1 (h.sl 2 rfl).2 rfl rfl rfl rfl rfl rfl rfl rfl rfl g2 hx2 rfl fun w28 p40 k38 S30 h=>X0 7 rfl ?_
 obtain ⟨o3,hF,hK3⟩:=qe hF
 refine qq ?_
 replace h:=h.pick [0,1,4] rfl
 refine rL (fun m e w'=>∃ (S31:Nat→Prop) (r34:qd) (p41:Option Addr) (k39:Nat) (p42:Option Addr) (k40:Nat) (p43:Option Addr) (k41:Nat) (p44:Option Addr) (k42:Nat) (p45:Option Addr) (k43:Nat) (i3:Int),qbc a_0 x2 m r34 i3=some o3∧e=[(0,.slice p1 a_0.length k1),(3,.pointer (some ⟨bb1,0,none⟩)),(17,.slice p40 x2.length k38),(18,.int .i64 i3)]∧SH w w' [Ch.own S30 (x2:List Int) [.slice p40 x2.length k38],Ch.grp (old w) S31 [fct (r34:qd) [.slice p41 r34.Ac.Ak.length k39,.slice p42 r34.Aa.Ab.length k40,.slice p43 r34.Aa.Ai.length k41,.slice p44 r34.Aa.Af.length k42,.slice p45 r34.Ah.length k43]],Ch.box bb1 (qT r34 p41 p42 p43 p44 p45 k39 k40 k41 k42 k43) 34]) n ⟨_,_,_,_,_,_,_,_,_,_,_,_,_,hF,rfl,h⟩ rfl ?_
 rintro m2 e3 w29 ⟨S31,r34,p41,k39,p42,k40,p43,k41,p44,k42,p45,k43,i3,hF,rfl,h⟩
 rcases m2 with _|m2
 ·cases hF
 refine X0 8 rfl (qr rfl hF ?_ ?_)<;>intro hF
 ·refine X0 4 rfl (rA [] [0,2] h rfl fun w30 h=>M1 7 [0,1,2] 1 (h.pick [0,2] rfl) rfl ?_)
  obtain ⟨y4,hy4,hF,he4,b6,_,q4,cs15,hp4,hq4,rfl,hc11⟩:=(h.sl 0 rfl).1.ix hF
  refine Ax 3 15 hp4 hq4 ⟨he4.1,qY he4.2.1 (h.sl 0 rfl).2⟩ (h.pick [0,2] rfl) rfl (Aw 4 31 (fun w' hw=>qfq qa (qcj (w1:=w) (S1:=fun _=>False) hw 0 rfl hy4 hp4 hq4 rfl) (j:=0) rfl rfl rfl) (h.pick [0,2] rfl) rfl ?_)
  refine Ao 5 63 rfl (qp qa [.tmp 143] _ ([y4]:List Int) h rfl rfl rfl rfl rfl rfl rfl rfl rfl ⟨rfl,trivial⟩ rfl fun w31 p46 S32 h=>Ag (h.pick [1,3] rfl) (Ao 6 127 rfl (zcB h hF (qgo (h.grp 2 0 rfl rfl) (h.own 0 rfl)) rfl fun r35 w32 h hF=>G0 255 [7] (h.pick [1,3] rfl) rfl (Ad (X0 3 rfl ?_)))))
  obtain ⟨r36,hr53,hF⟩:=qe hF
  obtain ⟨r37,r38⟩:=r36
  refine qfI (r37,r38) hg1 h (cB 8 rfl) (qaE (hg1.atB h) ⟨_,_,rfl,(hg1.inBS h s1)⟩ hr53) rfl rfl rfl rfl fun w33 us21 S33 h hv26=>?_
  obtain ⟨cs16,us22,rfl,hr54,hv27⟩:=qh1 hv26
  have hr55:=hr54
  obtain ⟨p47,k44,p48,k45,p49,k46,p50,k47,p51,k48,rfl,s27,s28,s29,s30,s31⟩:=qP hr54
  replace h:=h.grpAdd 0 rfl hr55
  obtain ⟨cs17,rfl,hr56⟩:=qeY hv27
  have hr57:=hr56
  obtain rfl:=hr56
  refine zp3 rfl (zs 4 h rfl fun w34 h=>X0 7 rfl (qr rfl hF ?_ ?_))<;>intro hF
  ·refine X0 4 rfl ?_
   replace h:=h.pick [1,2,4] rfl
   obtain rfl:=qb hF;replace hF:=hK3
   exact rb h hF rfl
  refine X0 7 rfl ?_
  replace h:=h.pick [0,1,2,4] rfl
  replace h:=h.pick [2,0,3] rfl
  exact rK ⟨_,_,_,_,_,_,_,_,_,_,_,_,_,hF,rfl,h⟩ rfl
 refine qw rfl ?_
 obtain rfl:=qb hF;replace hF:=hK3
 refine X0 4 rfl ?_
 replace h:=h.pick [0,2] rfl
 exact rb h hF rfl
end Go.Fw


namespace Go.Fw
open Go
set_option maxRecDepth 100000
theorem qih {b:qd} {path:List Int} (hok:qcW b) (hl:path.length≤1048576):Ev (fun n=>qd4 n b path) (blockB b&&dpathB b path):=by
 unfold qd4
 refine Ev.and (qhj hok) fun h=>?_
 obtain ⟨ls,lo,de,e⟩:=qha h
 exact Ev.bind e (Ev.last (qkj h rfl rfl hl))
theorem qk2 {b:qd} {j:Nat}:(succL b j).Pairwise (·<·):=by
 unfold succL
 cases (gt (places b.Aa) j).drives
 ·cases decide ((gt (places b.Aa) j).instance_<0)
  ·cases dataB (cellAt b (gt (places b.Aa) j).instance_) (gt (places b.Aa) j).pin
   ·exact List.Pairwise.nil
   ·exact List.pairwise_singleton _ _
  ·exact List.Pairwise.nil
 ·refine List.Pairwise.filter _ ?_
  unfold sinksL
  rw [List.pairwise_map]
  exact (List.Pairwise.filter _ (List.pairwise_lt_range (n:=(places b.Aa).length))).imp (fun h=>by omega)
theorem PlI.in {b:qd} {p:Int} (h:PlI b p):inPl b p=true:=by
 unfold inPl
 rw [qbe]
 unfold PlI at h
 omega
theorem qoe {b:qd} {p:Int} (h:PlI b p):dpathB b [p]=true:=by
 unfold dpathB
 rw [jg,jg]
 refine ⟨rfl,qag.2 fun i hi=>?_,qag.2 fun i hi=>?_⟩
 ·obtain rfl:i=0:=by simpa using hi
  exact h.in
 ·obtain rfl:i=0:=by simpa using hi
  rfl
theorem qnv {b:qd} {j:Nat} {y:Int} (h:blockB b=true) (hj:j<(places b.Aa).length) (hy:y ∈ succL b j):dpathB b [(j:Int),y]=true:=by
 have hp:PlI b (j:Int):=by unfold PlI;omega
 unfold dpathB
 rw [jg,jg]
 refine ⟨rfl,qag.2 fun i hi=>?_,qag.2 fun i hi=>?_⟩
 ·have:i=0∨i=1:=by have:i<2:=hi;omega
  rcases this with rfl|rfl
  ·exact hp.in
  ·exact (qm6 h hj y hy).in
 ·have:i=0∨i=1:=by have:i<2:=hi;omega
  rcases this with rfl|rfl
  ·rfl
  ·show (false || hasI (succL b ((j:Int)).toNat) y)=true
   rw [Bool.false_or,jv]
   exact List.any_eq_true.2 ⟨y,hy,by simp⟩
theorem qmi {b:qd} {q:Nat→Bool}:∀ y,y ∈ selL q (places b.Aa).length→PlI b y:=by
 intro y hy
 unfold selL at hy
 obtain ⟨k,hk,rfl⟩:=List.mem_map.1 hy
 have:=List.mem_range.1 (List.mem_filter.1 hk).1
 unfold PlI;omega
section
variable {code:List (IntK .u8)}
theorem qnk {b:qd} {j:Nat} (hok:qcW b) (h:blockB b=true) (hj:j<(places b.Aa).length) (hd:Ev (fun n=>qW n code) (b,(j:Int))) :
  Ev (fun n=>qaV code (succL b j) n b (j:Int) 0) (.nxt (b,(j:Int),((succL b j).length:Int))):=by
 have hsl:=qkE h (j:=j)
 refine loopF (τ:=Unit) (Lf:=fun n _ i=>qaV code (succL b j) n b (j:Int) i) (S:=fun _=>()) (len:=(succL b j).length) (fun n=>by simp only [qaV,qn (jf _),cond_false]) (fun i hi X hX=>?_)
 have hdp:=qih (path:=[(j:Int),(succL b j)[i]]) hok (by simp)
 rw [h,qnv h hj (jq hi)] at hdp
 simp only [qaV,qm hi,cond_true,qa8 hi,je,wS i]
 refine Ev.bind hdp (Ev.bind hd (Ev.ff rfl (Ev.bif (fun h1=>?_) (fun _=>hX))))
 have h1:0<i:=by have:=of_decide_eq_true h1;omega
 have e:W64 ((i:Int)-1)=((i-1:Nat):Int):=by rw [qaP (by omega) (by omega)];omega
 have hs:=List.pairwise_iff_getElem.1 (qk2 (b:=b) (j:=j)) (i-1) i (by omega) hi (by omega)
 rw [e]
 exact Ev.bindN (qa8 (show i-1<(succL b j).length by omega)) (Ev.ff (by simp;omega) hX)
theorem qnu {b:qd} {p:Int} {xs:List Int} (hok:qcW b) (h:blockB b=true) (hl:xs.length≤1000) (hx:∀ y,y ∈ xs→PlI b y) (hd:Ev (fun n=>qW n code) (b,p)) :
  Ev (fun n=>qbc code xs n b 0) (.nxt (b,(xs.length:Int))):=by
 refine loopF (τ:=Unit) (Lf:=fun n _ i=>qbc code xs n b i) (S:=fun _=>()) (len:=xs.length) (fun n=>by simp only [qbc,qn (jf _),cond_false]) (fun i hi X hX=>?_)
 have hdp:=qih (path:=[xs[i]]) hok (by simp)
 rw [h,qoe (hx _ (jq hi))] at hdp
 simp only [qbc,qm hi,cond_true,qa8 hi,je,wS i]
 exact Ev.bind hdp (Ev.bind hd (Ev.ff rfl hX))
theorem qjw (hk:rngL rng8 code):Ev (fun n=>qfx n code) true:=by
 unfold qfx qjU
 refine Ev.bindN rfl (Ev.bif (fun _=>.done) (fun hl=>?_))
 have hl:code.length≤4096:=by have:=of_decide_eq_false hl;omega
 obtain ⟨⟨b,p⟩,hd,hb,hp⟩:=qn3 (code:=code) ⟨by omega,hk.2⟩
 have iD:=qiC (b:=b) (p:=p) hb.ok
 have sD:=qil (b:=b) (p:=p) hb.ok
 dsimp only at hb
 cases h:blockB b
 ·have e:dsR b p=([],1):=by unfold dsR;rw [h];rfl
  rw [e] at iD sD
  exact Ev.bind hd (Ev.bind iD (Ev.bind hd (Ev.tt rfl (Ev.bind sD (Ev.bind (b:=true) (Ev.tt rfl (Ev.now rfl)) .done)))))
 cases hpl:inPl b p
 ·have e:dsR b p=([],2):=by unfold dsR;rw [h,hpl];rfl
  rw [e] at iD sD
  exact Ev.bind hd (Ev.bind iD (Ev.bind hd (Ev.tt rfl (Ev.bind sD (Ev.bind (b:=true) (Ev.tt rfl (Ev.now rfl)) .done)))))
 ·have hin:=hpl
  unfold inPl at hin
  rw [qbe] at hin
  obtain ⟨j,rfl⟩:∃ j:Nat,p=(j:Int):=⟨p.toNat,by omega⟩
  have hj:j<(places b.Aa).length:=by omega
  have hpl78:=qaF (qab (qas h))
  have e:dsR b (j:Int)=(succL b j,0):=by unfold dsR;rw [h,hpl];rfl
  rw [e] at iD sD
  have iS:=qj2 hb.ok
  have iE:=qkV hb.ok
  have eS:startsR b=(startsL b,0):=by unfold startsR;rw [h];rfl
  have eE:endsR b=(endsL b,0):=by unfold endsR;rw [h];rfl
  rw [eS] at iS
  rw [eE] at iE
  have hsl:(startsL b).length≤78:=jN qjT hpl78
  have hel:(endsL b).length≤78:=jN qjT hpl78
  refine Ev.bind hd (Ev.bind iD (Ev.bind hd (Ev.ff rfl (Ev.bind sD (Ev.ff (by simp) (Ev.bind (qnk hb.ok h hj hd) (Ev.bind iS (Ev.bind hd (Ev.bind iE (Ev.bind hd (Ev.bind (b:=false) (Ev.ff rfl (Ev.now rfl)) (Ev.ff rfl ?_))))))))))))
  refine Ev.bindN (qg8 (by omega)) (Ev.bindN (qb6 (by omega)) (Ev.bind (qnu hb.ok h (by rw [ji];omega) (fun y hy=>?_) hd) .done))
  rcases List.mem_append.1 hy with hy|hy
  ·exact qmi y hy
  ·exact qmi y hy
end
end Go.Fw
