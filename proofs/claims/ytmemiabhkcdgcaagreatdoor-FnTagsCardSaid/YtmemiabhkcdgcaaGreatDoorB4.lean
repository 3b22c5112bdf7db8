/- By a program of mine (gen.py): for each function a plain function and the proof that the code computes it. -/
import Derived.Test.YtmemiabhkcdgcaaGreatDoorG1
import Derived.Test.YtmemiabhkcdgcaaGreatDoorFw29
open Option renaming bind_some → je, map_some → jW
open Nat renaming le_refl → jf, le_of_ble_eq_true → js, mul_le_mul_right → jx, lt_of_lt_of_le → jy, zero_le → jz, succ_mul → jQ, le_trans → jS, add_zero → Jc, zero_add → Jj
open Bool renaming and_eq_true → jg, eq_iff_iff → jm, true_and → jJ, not_eq_true' → jO, and_assoc → Ji, not_true → Jk, false_or → Jl
open Go.Result renaming andThen_ok → jh
open List renaming getElem?_eq_getElem → ji, length_append → jj, length_singleton → jk, mem_cons_of_mem → jo, getElem_mem → jp, mem_cons_self → jq, take_succ_eq_append_getElem → jr, getElem?_take → jt, getElem?_append_left → ju, mem_of_getElem? → jw, getElem?_drop → jA, take_length → jB, getElem?_append_right → jD, drop_eq_getElem_cons → jE, eq_nil_of_length_eq_zero → jF, not_mem_nil → jG, length_map → jH, getElem?_toArray → jI, getD_eq_getElem?_getD → jK, mem_append_left → jL, getElem_of_mem → jM, mem_cons → jN, getElem?_cons_succ → jP, mem_append_right → jR, append_nil → jT, size_toArray → jV, map_append → jX, range_succ → jY, length_take → jZ, length_filter_le → Ja, map_cons → Jb, drop_eq_nil_of_le → Jd, all_eq_true → Je, length_cons → Jf, append_assoc → Jg, ext_getElem → Jh
open Go.Sem renaming run_bind → jl, run_pure → jn
open Int renaming toNat_natCast → jC
open Array renaming getElem?_append_left → jU

namespace Go.Fw
open Go Go.Proofs
open Go.RowKit (Below)
set_option maxRecDepth 100000
set_option maxHeartbeats 6400000
variable {n:Nat} {w:World} {cs1 cs2 cs3 cs4 cs5 cs6 cs7 cs8 cs9:List Value}
def qn (_:Nat) (a_0:Tl01Source) (a_1:Int):Option (Int × Int × Int) :=
 bif decide (a_1≤1) then some (0,a_0.at_,a_0.seed) else
 bif decide (a_0.at_<(a_0.code.length:Int)) then
  (idx a_0.code a_0.at_).bind fun y1 =>
  bif decide (a_1≤256) then
   (remS (W64 y1.val) a_1).bind fun y2 =>
   some (y2,W64 (a_0.at_+1),a_0.seed)
  else
   (remS ((W64 ((W64 ((W64 (a_0.seed*48271))+(W64 y1.val)))+1)).tmod 2147483647) a_1).bind fun y3 =>
   some (y3,W64 (a_0.at_+1),(W64 ((W64 ((W64 (a_0.seed*48271))+(W64 y1.val)))+1)).tmod 2147483647)
 else
  (remS (W64 (((W64 ((W64 (a_0.seed*48271))+11)).tmod 2147483647).tdiv 7)) a_1).bind fun y4 =>
  some (y4,a_0.at_,(W64 ((W64 (a_0.seed*48271))+11)).tmod 2147483647)
theorem qgc {n:Nat} {w0 w:World} {F:List Ch} {a_0:Tl01Source} {bb1:Nat} {p1:Option Addr} {k1:Nat} {a_1:Int} (h0:SH w0 w (Ch.box bb1 (qan a_0 p1 k1) 184::F)) (ha1:GoT.R w (Fr w0 F) a_0 [.slice p1 a_0.code.length k1,.int .i64 a_0.at_,.int .i64 a_0.seed]) {r:(Int × Int × Int)} (hF:qn n a_0 a_1=some r):RetW Tryz.prog 73 [.pointer (some ⟨bb1,0,none⟩),.int .i64 a_1] w (fun us w'=>us=[.int .i64 r.1]∧SH w0 w' (Ch.box bb1 [.slice p1 a_0.code.length k1,.int .i64 r.2.1,.int .i64 r.2.2] 184::F)):=by
 have h:=SH.frm1 h0 ha1
 refine qbr Tryz.func73 rfl (m:=76) rfl rfl (X0 10 rfl (qk rfl hF ?_ ?_))<;>intro hF
 ·refine X0 4 rfl ?_
  obtain rfl:=qc hF
  exact qbx qb [.int .i64 0] ⟨rfl,trivial⟩ ⟨rfl,SH.unfr 1 1 h0 h rfl rfl⟩
 refine zKSS (rD (Y1 4 0 h rfl ?_))
 refine Y1 4 0 h rfl ?_
 refine zd2 rfl (dN h fun w1 h=>qk rfl hF ?_ ?_)<;>intro hF
 ·refine qf1 (rD (Y1 4 0 h rfl ?_))
  refine Y1 4 0 h rfl ?_
  obtain ⟨y1,hy1,hF,he1,b1,_,q1,cs1,hp1,hq1,rfl,hc3⟩:=(qf (h.grp 1 0 rfl rfl)).1.ix hF
  refine zdx hp1 hq1 ⟨he1.1,qI he1.2.1 (qf (h.grp 1 0 rfl rfl)).2⟩ rfl (zdc 0 hc3 rfl (zd2 rfl (dN h fun w2 h=>X1 9 0 h rfl (zs 0 h rfl fun w3 h=>X0 7 rfl (qk rfl hF ?_ ?_)))))<;>intro hF
  ·refine X0 4 rfl ?_
   obtain ⟨y2,hx1,hF⟩:=qe hF
   obtain ⟨g1,hx1⟩:=qkW hx1
   refine r_v (qoK g1 hx1 rfl rfl) rfl (X0 2 rfl ?_)
   obtain rfl:=qc hF
   exact qbx qb [.int .i64 y2] ⟨rfl,trivial⟩ ⟨rfl,SH.unfr 1 1 h0 h rfl rfl⟩
  refine X1 15 0 h rfl (zs 0 h rfl fun w4 h=>X1 8 0 h rfl ?_)
  obtain ⟨y3,hx2,hF⟩:=qe hF
  obtain ⟨g2,hx2⟩:=qkW hx2
  refine r_v (qoK g2 hx2 rfl rfl) rfl (X0 2 rfl ?_)
  obtain rfl:=qc hF
  exact qbx qb [.int .i64 y3] ⟨rfl,trivial⟩ ⟨rfl,SH.unfr 1 1 h0 h rfl rfl⟩
 refine X1 13 0 h rfl (zs 0 h rfl fun w5 h=>X1 9 0 h rfl ?_)
 obtain ⟨y4,hx3,hF⟩:=qe hF
 obtain ⟨g3,hx3⟩:=qkW hx3
 refine r_v (qoK g3 hx3 rfl rfl) rfl (X0 2 rfl ?_)
 obtain rfl:=qc hF
 exact qbx qb [.int .i64 y4] ⟨rfl,trivial⟩ ⟨rfl,SH.unfr 1 1 h0 h rfl rfl⟩
theorem nxC {n m:Nat} {Q:Exit→Act→World→Prop} {k:List It} {e:Env} {w0 w:World} {F:List Ch} {all:Array Oper} {l:List Oper} {d ty:Nat} {ps:String} {af:Array Edge} {x:Operand} {args:Array Operand} {ats:Array TypeId} {code:List (IntK .u8)} {a s q i i1 i2:Int} {bb:Nat} {p1:Option Addr} {k1:Nat}
  (h:SH w0 w (Ch.box bb [.slice p1 code.length k1,.int .i64 a,.int .i64 s] 184::F)) (hS:SlR w (Fr w0 F) code p1 k1) (hF:qn m ⟨code,a,s⟩ q=some (i,i1,i2)) (hx:opv e x=some (.func (.func 73) #[] #[])) (hargs:opvs e args.toList=some [.pointer (some ⟨bb,0,none⟩),.int .i64 q]) (hn:Nat.blt d n=true)
  (hk:∀ w',SH w0 w' (Ch.box bb [.slice p1 code.length k1,.int .i64 i1,.int .i64 i2] 184::F)→Run Tryz.prog n Q (.ops all l::k) ((d,.int .i64 i)::e) w'):Run Tryz.prog n Q (.ops all (⟨some d,.call ⟨.value x,args,ats⟩,ty,ps,af,none⟩::l)::k) e w:=by
 refine qaV (cB 73 rfl) (qgc (a_0:=⟨code,a,s⟩) h ⟨[.slice p1 code.length k1],[.int .i64 a,.int .i64 s],rfl,⟨_,_,rfl,hS⟩,⟨[.int .i64 a],[.int .i64 s],rfl,rfl,rfl⟩⟩ hF) hx hargs rfl hn ?_
 rintro w' _ ⟨rfl,h⟩
 exact hk w' h
def qe2 (c:qt) (y1:Int):Nat→Bool→Bool→Int→Option (Bool × Bool × Int)
 | 0,_,_,_=>none
 | n+1,b1,b2,i1 =>
  bif decide (i1<(c.Ba.length:Int)) then
   bif ((bitS .and .i64 i1 y1) != 0) then qe2 c y1 n b1 b2 (W64 (i1+1)) else
   (
    bif b1 then some true else
    (idx c.Ba i1).bind fun y4 =>
    (idx c.Ba (W64 (i1+y1))).bind fun y5 =>
    some (decide (y4<y5))).bind fun b3 =>
   bif b2 then qe2 c y1 n b3 true (W64 (i1+1)) else
   (idx c.Ba i1).bind fun y2 =>
   (idx c.Ba (W64 (i1+y1))).bind fun y3 =>
   qe2 c y1 n b3 (decide (y2 > y3)) (W64 (i1+1))
  else
   some (b1,b2,i1)
def qi4 (n:Nat) (c:qt) (pin:Int):Option Int :=
 (shlS 1 (IntKind.wrap .u64 pin)).bind fun y1 =>
 (qe2 c y1 n false false 0).bind fun o=>match o with
 | (b1,b2,_) =>
  (
   bif b1 then some b2 else
   some false).bind fun b8 =>
  bif b8 then some 3 else
  bif b1 then some 1 else
  bif b2 then some 2 else
  some 0
theorem ql0 {c:qt} {pin:Int} (ha1:GoT.R w (old w) c cs1) {r:Int} (hF:qi4 n c pin=some r):RetV Tryz.prog 230 [GoT.v qt cs1,.int .i64 pin] w r:=by
 obtain ⟨p1,k1,p2,k2,p3,k3,rfl,s1,s2,s3⟩:=qS ha1
 refine zV 64 Tryz.func230 rfl fun h=>zSR (qO h rfl rfl fun w1 bb1 h=>X0 11 rfl ?_)
 obtain ⟨y1,hx1,hF⟩:=qe hF
 obtain ⟨g1,hx1⟩:=qkK hx1
 refine r_v (qqz g1 rfl rfl) rfl ?_
 rw [hx1]
 refine X0 7 rfl ?_
 obtain ⟨o1,hF,hK1⟩:=qe hF
 refine ql (rL (fun m e w'=>∃ (b1:Bool) (b2:Bool) (i1:Int),qe2 c y1 m b1 b2 i1=some o1∧e=[(2,.pointer (some ⟨bb1,0,none⟩)),(5,.bool b1),(6,.bool b2),(7,.int .i64 y1),(8,.int .i64 i1)]∧SH w w' [Ch.box bb1 (qy c p1 p2 p3 k1 k2 k3) 201]) n ⟨_,_,_,hF,rfl,h⟩ rfl ?_)
 rintro m1 e1 w2 ⟨b1,b2,i1,hF,rfl,h⟩
 rcases m1 with _|m1
 ·cases hF
 refine X1 9 0 h rfl (qk rfl hF ?_ ?_)<;>intro hF
 ·refine X0 8 rfl (r_v (qtW rfl rfl rfl) rfl (X0 2 rfl (qk rfl hF ?_ ?_)))<;>intro hF
  ·exact qp rfl (X0 5 rfl (rK ⟨_,_,_,hF,rfl,h⟩ rfl))
  refine zKS ?_
  obtain ⟨KF1,hKF1,o2,hF,hK2⟩:=bindE hF
  refine qa8 (fun e w'=>∃ (b3:Bool),KF1 b3=some o1∧e=[(2,.pointer (some ⟨bb1,0,none⟩)),(5,.bool b3),(6,.bool b2),(7,.int .i64 y1),(8,.int .i64 i1)]∧SH w w' [Ch.box bb1 (qy c p1 p2 p3 k1 k2 k3) 201]) ?_ ?_
  ·refine rD (zd2 rfl (qbf (t:=24) hF rfl ?_ ?_))<;>intro hF
   ·refine Y0 15 rfl (dN h fun w5 h=>?_)
    obtain rfl:=qc hF
    exact rG ⟨_,hK2,rfl,h⟩ rfl
   refine Y1 4 0 h rfl ?_
   refine Y0 3 rfl ?_
   obtain ⟨y4,hy3,hF,he3,b6,_,q3,cs4,hp3,hq3,rfl,hc5⟩:=s3.ix hF
   refine zdxe hp3 hq3 he3 rfl (Y0 1 rfl (zdc 0 (hc5.below h.below) rfl (Y1 4 0 h rfl ?_)))
   refine Y0 7 rfl ?_
   obtain ⟨y5,hy4,hF,he4,b7,_,q4,cs5,hp4,hq4,rfl,hc6⟩:=s3.ix hF
   refine zdxe hp4 hq4 he4 rfl (Y0 1 rfl (zdc 0 (hc6.below h.below) rfl (Y0 4 rfl (dN h fun w6 h=>?_))))
   obtain rfl:=qc hF
   exact rG ⟨_,hK2,rfl,h⟩ rfl
  rintro e2 w7 ⟨b3,hF,rfl,h⟩
  subst hKF1
  refine rD (zd2 rfl (qbf (t:=40) hF rfl ?_ ?_))<;>intro hF
  ·exact Y0 15 rfl (dN h fun w3 h=>X0 6 rfl (rK ⟨_,_,_,hF,rfl,h⟩ rfl))
  refine Y1 4 0 h rfl ?_
  refine Y0 3 rfl ?_
  obtain ⟨y2,hy1,hF,he1,b4,_,q1,cs2,hp1,hq1,rfl,hc3⟩:=s3.ix hF
  refine zdxe hp1 hq1 he1 rfl (Y0 1 rfl (zdc 0 (hc3.below h.below) rfl (Y1 4 0 h rfl ?_)))
  refine Y0 7 rfl ?_
  obtain ⟨y3,hy2,hF,he2,b5,_,q2,cs3,hp2,hq2,rfl,hc4⟩:=s3.ix hF
  exact zdxe hp2 hq2 he2 rfl (Y0 1 rfl (zdc 0 (hc4.below h.below) rfl (Y0 4 rfl (dN h fun w4 h=>X0 6 rfl (rK ⟨_,_,_,hF,rfl,h⟩ rfl)))))
 refine qp rfl ?_
 obtain rfl:=qc hF;replace hF:=hK1
 refine X0 3 rfl ?_
 obtain ⟨KF2,hKF2,o3,hF,hK3⟩:=bindE hF
 refine qa8 (fun e w'=>∃ (b8:Bool),KF2 b8=some r∧e=[(5,.bool b1),(6,.bool b2),(55,.bool b8)]∧SH w w' []) ?_ ?_
 ·refine X0 3 rfl (qh (t:=57) hF rfl ?_ ?_)<;>intro hF
  ·refine X0 5 rfl ?_
   replace h:=h.pick [] rfl
   obtain rfl:=qc hF
   exact rG ⟨_,hK3,rfl,h⟩ rfl
  refine X0 4 rfl ?_
  replace h:=h.pick [] rfl
  obtain rfl:=qc hF
  exact rG ⟨_,hK3,rfl,h⟩ rfl
 rintro e3 w8 ⟨b8,hF,rfl,h⟩
 subst hKF2
 refine qk rfl hF ?_ ?_<;>intro hF
 ·exact X0 4 rfl (ri h hF rfl)
 refine X0 5 rfl (qk rfl hF ?_ ?_)<;>intro hF
 ·exact X0 4 rfl (ri h hF rfl)
 refine X0 5 rfl (qk rfl hF ?_ ?_)<;>intro hF
 ·exact X0 4 rfl (ri h hF rfl)
 exact X0 6 rfl (ri h hF rfl)
def qcB (s:Tl01Source) (step:Int):Nat→(List Int)→Int→Int→Int→Int→Option ((List Int) × Int × Int × Int × Int)
 | 0,_,_,_,_,_=>none
 | n+1,x1,i7,i8,i9,i10 =>
  bif decide (i10 > 0) then
   (appS x1 ([i9]:List Int)).bind fun x2 =>
   (qn n (⟨s.code,i7,i8⟩:Tl01Source) step).bind fun o=>match o with
    | (i11,i12,i13) =>
     qcB s step n x2 i12 i13 (W64 ((W64 (i9+1))+i11)) (W64 (i10-1))
  else
   some (x1,i7,i8,i9,i10)
def qe9 (n:Nat) (s:Tl01Source) (step:Int):Option ((List Int) × Int × Int) :=
 (qn n (⟨s.code,s.at_,s.seed⟩:Tl01Source) step).bind fun o=>match o with
  | (i1,i2,i3) =>
   (qn n (⟨s.code,i2,i3⟩:Tl01Source) 3).bind fun o=>match o with
    | (i4,i5,i6) =>
     (qcB s step n ([]:List Int) i5 i6 i1 (W64 (1+i4))).bind fun o=>match o with
     | (x1,i7,i8,_,_) =>
      some (x1,i7,i8)
theorem qhL {n:Nat} {w0 w:World} {F:List Ch} {s:Tl01Source} {bb1:Nat} {p1:Option Addr} {k1:Nat} {step:Int} (h0:SH w0 w (Ch.box bb1 (qan s p1 k1) 184::F)) (ha1:GoT.R w (Fr w0 F) s [.slice p1 s.code.length k1,.int .i64 s.at_,.int .i64 s.seed]) {r:((List Int) × Int × Int)} (hF:qe9 n s step=some r):RetW Tryz.prog 268 [.pointer (some ⟨bb1,0,none⟩),.int .i64 step] w (fun us w'=>∃ (S1:Nat→Prop) (cs1:List Value),us=[GoT.v (List Int) cs1]∧SH w0 w' (Ch.own S1 (r.1:(List Int)) cs1::Ch.box bb1 [.slice p1 s.code.length k1,.int .i64 r.2.1,.int .i64 r.2.2] 184::F)):=by
 have h:=SH.frm1 h0 ha1
 refine qbr Tryz.func268 rfl (m:=30) rfl rfl (X0 6 rfl (qm qb [] _ ([]:List Int) h rfl rfl rfl rfl rfl rfl rfl rfl rfl trivial rfl fun w1 p2 S2 h=>X0 6 rfl ?_))
 replace h:=h.pick [1,0,2] rfl
 obtain ⟨o1,hr1,hF⟩:=qe hF
 obtain ⟨i1,i2,i3⟩:=o1
 refine nxC h ((qf (h.frG 2 0 1 rfl rfl rfl)).1) hr1 rfl rfl rfl fun w2 h=>X0 6 rfl ?_
 obtain ⟨o2,hr2,hF⟩:=qe hF
 obtain ⟨i4,i5,i6⟩:=o2
 refine nxC h ((qf (h.frG 2 0 1 rfl rfl rfl)).1) hr2 rfl rfl rfl fun w3 h=>X0 3 rfl ?_
 obtain ⟨o3,hF,hK1⟩:=qe hF
 refine ql (rL (fun m e w'=>∃ (S3:Nat→Prop) (p3:Option Addr) (ln1:Nat) (k2:Nat) (x1:(List Int)) (i7:Int) (i8:Int) (i9:Int) (i10:Int),qcB s step m x1 i7 i8 i9 i10=some o3∧e=[(0,.pointer (some ⟨bb1,0,none⟩)),(1,.int .i64 step),(5,.slice p3 ln1 k2),(6,.int .i64 i9),(7,.int .i64 i10)]∧SH w0 w' [Ch.box bb1 [.slice p1 s.code.length k1,.int .i64 i7,.int .i64 i8] 184,Ch.own S3 (x1:List Int) [.slice p3 ln1 k2],Ch.grp (old w0) (FS F) [fct (s:Tl01Source) [.slice p1 s.code.length k1,.int .i64 s.at_,.int .i64 s.seed],same w0 w F]]) n ⟨_,_,_,_,_,_,_,_,_,hF,rfl,h⟩ rfl ?_)
 rintro m1 e1 w4 ⟨S3,p3,ln1,k2,x1,i7,i8,i9,i10,hF,rfl,h⟩
 obtain rfl:=(h.sl 1 rfl).2
 rcases m1 with _|m1
 ·cases hF
 refine X0 6 rfl (qk rfl hF ?_ ?_)<;>intro hF
 ·refine X0 7 rfl (qm qb [.tmp 20] _ ([i9]:List Int) h rfl rfl rfl rfl rfl rfl rfl rfl rfl ⟨rfl,trivial⟩ rfl fun w5 p4 S4 h=>?_)
  obtain ⟨x2,hx1,hF⟩:=qe hF
  obtain ⟨g1,hx1⟩:=qr hx1
  refine qaf qb 2 h rfl (h.sl 0 rfl).1 (h.sl 0 rfl).2 rfl rfl rfl rfl rfl rfl rfl rfl rfl g1 hx1 rfl fun w6 p5 k3 S5 h=>X0 7 rfl ?_
  replace h:=h.pick [1,0,2,3] rfl
  obtain ⟨o4,hr3,hF⟩:=qe hF
  obtain ⟨i11,i12,i13⟩:=o4
  refine nxC h ((qf (h.frG 3 0 1 rfl rfl rfl)).1) hr3 rfl rfl rfl fun w7 h=>X0 9 rfl ?_
  replace h:=h.pick [0,2,3] rfl
  exact rK ⟨_,_,_,_,_,_,_,_,_,hF,rfl,h⟩ rfl
 refine qp rfl ?_
 obtain rfl:=qc hF;replace hF:=hK1
 refine X0 5 rfl ?_
 obtain rfl:=qc hF
 replace h:=h.pick [1,0,2] rfl
 exact qbx qb [GoT.v (List Int) [.slice p3 x1.length k2]] ⟨rfl,trivial⟩ ⟨_,_,rfl,SH.unfr 1 1 h0 h rfl rfl⟩
def qdt (a_0:Tl01Source) (a_1:Int) (r1:(List Int)) (r2:(List Int)):Nat→(List Int)→Int→Int→Int→Option ((List Int) × Int × Int × Int)
 | 0,_,_,_,_=>none
 | n+1,x1,i5,i6,i7 =>
  bif decide (i7<(W64 ((r1.length:Int)*(r2.length:Int)))) then
   (qn n (⟨a_0.code,i5,i6⟩:Tl01Source) 10).bind fun o=>match o with
    | (i8,i9,i10) =>
     (remS i7 (r2.length:Int)).bind fun y1 =>
     (
      bif decide (y1 > 0) then
       (idx x1 (W64 (i7-1))).bind fun y3 =>
       (qn n (⟨a_0.code,i9,i10⟩:Tl01Source) 20).bind fun o=>match o with
        | (i17,i18,i19) =>
         some (i18,i19,(if (W64 (y3+i17)) > (W64 (a_1+i8)) then (W64 (y3+i17)) else (W64 (a_1+i8))))
      else
       some (i9,i10,W64 (a_1+i8))).bind fun o=>match o with
      | (i11,i12,i13) =>
       bif decide (i7 ≥ (r2.length:Int)) then
        (idx x1 (W64 (i7-(r2.length:Int)))).bind fun y2 =>
        (qn n (⟨a_0.code,i11,i12⟩:Tl01Source) 20).bind fun o=>match o with
         | (i14,i15,i16) =>
          (appS x1 ([(if (W64 (y2+i14)) > i13 then (W64 (y2+i14)) else i13)]:List Int)).bind fun x2 =>
          qdt a_0 a_1 r1 r2 n x2 i15 i16 (W64 (i7+1))
       else
        (appS x1 ([i13]:List Int)).bind fun x3 =>
        qdt a_0 a_1 r1 r2 n x3 i11 i12 (W64 (i7+1))
  else
   some (x1,i5,i6,i7)
def qg4 (n:Nat) (a_0:Tl01Source) (a_1:Int):Option (qX × Int × Int) :=
 (qe9 n (⟨a_0.code,a_0.at_,a_0.seed⟩:Tl01Source) 60).bind fun o=>match o with
  | (r1,i1,i2) =>
   (qe9 n (⟨a_0.code,i1,i2⟩:Tl01Source) 40).bind fun o=>match o with
    | (r2,i3,i4) =>
     (qdt a_0 a_1 r1 r2 n ([]:List Int) i3 i4 0).bind fun o=>match o with
     | (x1,i5,i6,_) =>
      some ((⟨r1,r2,x1⟩:qX),i5,i6)
theorem qjf {n:Nat} {w0 w:World} {F:List Ch} {a_0:Tl01Source} {bb1:Nat} {p1:Option Addr} {k1:Nat} {a_1:Int} (h0:SH w0 w (Ch.box bb1 (qan a_0 p1 k1) 184::F)) (ha1:GoT.R w (Fr w0 F) a_0 [.slice p1 a_0.code.length k1,.int .i64 a_0.at_,.int .i64 a_0.seed]) {r:(qX × Int × Int)} (hF:qg4 n a_0 a_1=some r):RetW Tryz.prog 253 [.pointer (some ⟨bb1,0,none⟩),.int .i64 a_1] w (fun us w'=>∃ (S1:Nat→Prop) (cs1:List Value),us=[GoT.v qX cs1]∧SH w0 w' (Ch.own S1 (r.1:qX) cs1::Ch.box bb1 [.slice p1 a_0.code.length k1,.int .i64 r.2.1,.int .i64 r.2.2] 184::F)):=by
 have h:=SH.frm1 h0 ha1
 refine qbr Tryz.func253 rfl (m:=66) rfl rfl (zSR (qB qb h rfl rfl rfl fun w1 bb2 h=>X0 4 rfl ?_))
 replace h:=h.pick [1,0,2] rfl
 obtain ⟨o1,hr1,hF⟩:=qe hF
 obtain ⟨r1,i1,i2⟩:=o1
 refine qaV (cB 268 rfl) (qhL (s:=(⟨a_0.code,a_0.at_,a_0.seed⟩:Tl01Source)) (step:=60) h (show GoT.R _ _ ((⟨a_0.code,a_0.at_,a_0.seed⟩:Tl01Source):Tl01Source) _ from ⟨[.slice p1 a_0.code.length k1],[.int .i64 a_0.at_,.int .i64 a_0.seed],rfl,⟨_,_,rfl,(qf (h.frG 2 0 1 rfl rfl rfl)).1⟩,⟨[.int .i64 a_0.at_],[.int .i64 a_0.seed],rfl,rfl,rfl⟩⟩) hr1) rfl rfl rfl rfl ?_
 rintro w2 us1 ⟨S2,cs2,rfl,h⟩
 obtain ⟨p2,k2,rfl,-⟩:=h.own 0 rfl
 replace h:SH _ _ [Ch.own S2 (r1:List Int) [.slice p2 r1.length k2],Ch.box bb1 [.slice p1 a_0.code.length k1,.int .i64 i1,.int .i64 i2] 184,Ch.box bb2 [.slice none 0 0,.slice none 0 0,.slice none 0 0] 292,Ch.grp (old w0) (FS F) [fct (a_0:Tl01Source) [.slice p1 a_0.code.length k1,.int .i64 a_0.at_,.int .i64 a_0.seed],same w0 w F]]:=h
 refine X0 5 rfl ?_
 replace h:=h.pick [1,0,2,3] rfl
 obtain ⟨o2,hr2,hF⟩:=qe hF
 obtain ⟨r2,i3,i4⟩:=o2
 refine qaV (cB 268 rfl) (qhL (s:=(⟨a_0.code,i1,i2⟩:Tl01Source)) (step:=40) h (show GoT.R _ _ ((⟨a_0.code,i1,i2⟩:Tl01Source):Tl01Source) _ from ⟨[.slice p1 a_0.code.length k1],[.int .i64 i1,.int .i64 i2],rfl,⟨_,_,rfl,(qf (h.frG 3 0 1 rfl rfl rfl)).1⟩,⟨[.int .i64 i1],[.int .i64 i2],rfl,rfl,rfl⟩⟩) hr2) rfl rfl rfl rfl ?_
 rintro w3 us2 ⟨S3,cs3,rfl,h⟩
 obtain ⟨p3,k3,rfl,-⟩:=h.own 0 rfl
 replace h:SH _ _ [Ch.own S3 (r2:List Int) [.slice p3 r2.length k3],Ch.box bb1 [.slice p1 a_0.code.length k1,.int .i64 i3,.int .i64 i4] 184,Ch.own S2 (r1:List Int) [.slice p2 r1.length k2],Ch.box bb2 [.slice none 0 0,.slice none 0 0,.slice none 0 0] 292,Ch.grp (old w0) (FS F) [fct (a_0:Tl01Source) [.slice p1 a_0.code.length k1,.int .i64 a_0.at_,.int .i64 a_0.seed],same w0 w F]]:=h
 refine X0 4 rfl (qm qb [] _ ([]:List Int) h rfl rfl rfl rfl rfl rfl rfl rfl rfl trivial rfl fun w4 p4 S4 h=>X0 13 rfl ?_)
 obtain ⟨o3,hF,hK1⟩:=qe hF
 refine ql (rL (fun m e w'=>∃ (S5:Nat→Prop) (p5:Option Addr) (ln1:Nat) (k4:Nat) (x1:(List Int)) (i5:Int) (i6:Int) (i7:Int),qdt a_0 a_1 r1 r2 m x1 i5 i6 i7=some o3∧e=[(0,.pointer (some ⟨bb1,0,none⟩)),(1,.int .i64 a_1),(4,.pointer (some ⟨bb2,0,none⟩)),(5,.slice p2 r1.length k2),(6,.slice p3 r2.length k3),(7,.slice p5 ln1 k4),(8,.int .i64 (r2.length:Int)),(9,.int .i64 i7)]∧SH w0 w' [Ch.own S5 (x1:List Int) [.slice p5 ln1 k4],Ch.own S3 (r2:List Int) [.slice p3 r2.length k3],Ch.box bb1 [.slice p1 a_0.code.length k1,.int .i64 i5,.int .i64 i6] 184,Ch.own S2 (r1:List Int) [.slice p2 r1.length k2],Ch.box bb2 [.slice none 0 0,.slice none 0 0,.slice none 0 0] 292,Ch.grp (old w0) (FS F) [fct (a_0:Tl01Source) [.slice p1 a_0.code.length k1,.int .i64 a_0.at_,.int .i64 a_0.seed],same w0 w F]]) n ⟨_,_,_,_,_,_,_,_,hF,rfl,h⟩ rfl ?_)
 rintro m1 e1 w5 ⟨S5,p5,ln1,k4,x1,i5,i6,i7,hF,rfl,h⟩
 obtain rfl:=(h.sl 0 rfl).2
 rcases m1 with _|m1
 ·cases hF
 refine X0 10 rfl (qk rfl hF ?_ ?_)<;>intro hF
 ·refine X0 7 rfl ?_
  replace h:=h.pick [2,0,1,3,4,5] rfl
  obtain ⟨o4,hr3,hF⟩:=qe hF
  obtain ⟨i8,i9,i10⟩:=o4
  refine nxC h ((qf (h.frG 5 0 1 rfl rfl rfl)).1) hr3 rfl rfl rfl fun w6 h=>X0 8 rfl ?_
  obtain ⟨y1,hx1,hF⟩:=qe hF
  obtain ⟨g1,hx1⟩:=qkW hx1
  refine r_v (qoK g1 hx1 rfl rfl) rfl (X0 2 rfl ?_)
  obtain ⟨KF1,hKF1,o6,hF,hK2⟩:=bindE hF
  refine qa8 (fun e w'=>∃ (i11:Int) (i12:Int) (i13:Int),KF1 (i11,i12,i13)=some o3∧e=[(0,.pointer (some ⟨bb1,0,none⟩)),(1,.int .i64 a_1),(4,.pointer (some ⟨bb2,0,none⟩)),(5,.slice p2 r1.length k2),(6,.slice p3 r2.length k3),(7,.slice p5 x1.length k4),(8,.int .i64 (r2.length:Int)),(9,.int .i64 i7),(10,.int .i64 i13)]∧SH w0 w' [Ch.box bb1 [.slice p1 a_0.code.length k1,.int .i64 i11,.int .i64 i12] 184,Ch.own S5 (x1:List Int) [.slice p5 x1.length k4],Ch.own S3 (r2:List Int) [.slice p3 r2.length k3],Ch.own S2 (r1:List Int) [.slice p2 r1.length k2],Ch.box bb2 [.slice none 0 0,.slice none 0 0,.slice none 0 0] 292,Ch.grp (old w0) (FS F) [fct (a_0:Tl01Source) [.slice p1 a_0.code.length k1,.int .i64 a_0.at_,.int .i64 a_0.seed],same w0 w F]]) ?_ ?_
  ·refine qk rfl hF ?_ ?_<;>intro hF
   ·refine rA [] [1] h rfl fun w13 h=>M0 15 [0,1,2,3] (h.pick [1] rfl) rfl ?_
    obtain ⟨y3,hy2,hF,he2,b2,_,q2,cs5,hp2,hq2,rfl,hc5⟩:=(h.sl 1 rfl).1.ix hF
    refine Ax 4 31 hp2 hq2 ⟨he2.1,qI he2.2.1 (h.sl 1 rfl).2⟩ (h.pick [1] rfl) rfl (Aw 5 63 (fun w' hw=>qfk qb (qbo (w1:=w) (S1:=fun _=>False) hw 0 rfl hy2 hp2 hq2 rfl) (j:=0) rfl rfl rfl) (h.pick [1] rfl) rfl ?_)
    refine M0 127 [6] (h.pick [1] rfl) rfl (Ao 7 255 rfl ?_)
    obtain ⟨o7,hr7,hF⟩:=qe hF
    obtain ⟨i17,i18,i19⟩:=o7
    refine nxC h ((qf (h.frG 5 0 1 rfl rfl rfl)).1) hr7 rfl rfl rfl fun w14 h=>G0 2047 [8,9,10] (h.pick [1] rfl) rfl (Ad ?_)
    obtain rfl:=qc hF
    exact rG ⟨_,_,_,hK2,rfl,h⟩ rfl
   refine qeg ?_
   obtain rfl:=qc hF
   exact rG ⟨_,_,_,hK2,rfl,h⟩ rfl
  rintro e2 w15 ⟨i11,i12,i13,hF,rfl,h⟩
  subst hKF1
  refine X0 7 rfl (qk rfl hF ?_ ?_)<;>intro hF
  ·refine rA [] [1] h rfl fun w7 h=>M0 31 [0,1,2,3,4] (h.pick [1] rfl) rfl ?_
   obtain ⟨y2,hy1,hF,he1,b1,_,q1,cs4,hp1,hq1,rfl,hc3⟩:=(h.sl 1 rfl).1.ix hF
   refine Ax 5 63 hp1 hq1 ⟨he1.1,qI he1.2.1 (h.sl 1 rfl).2⟩ (h.pick [1] rfl) rfl (Aw 6 127 (fun w' hw=>qfk qb (qbo (w1:=w) (S1:=fun _=>False) hw 0 rfl hy1 hp1 hq1 rfl) (j:=0) rfl rfl rfl) (h.pick [1] rfl) rfl ?_)
   refine M0 255 [7] (h.pick [1] rfl) rfl (Ao 8 511 rfl ?_)
   obtain ⟨o5,hr5,hF⟩:=qe hF
   obtain ⟨i14,i15,i16⟩:=o5
   refine nxC h ((qf (h.frG 5 0 1 rfl rfl rfl)).1) hr5 rfl rfl rfl fun w8 h=>G0 4095 [9,10,11] (h.pick [1] rfl) rfl (Ad (X0 3 rfl (qm qb [.tmp 59] _ ([(if (W64 (y2+i14)) > i13 then (W64 (y2+i14)) else i13)]:List Int) h rfl rfl rfl rfl rfl rfl rfl rfl rfl ⟨rfl,trivial⟩ rfl fun w9 p6 S6 h=>?_)))
   obtain ⟨x2,hx2,hF⟩:=qe hF
   obtain ⟨g2,hx2⟩:=qr hx2
   refine qaf qb 2 h rfl (h.sl 0 rfl).1 (h.sl 0 rfl).2 rfl rfl rfl rfl rfl rfl rfl rfl rfl g2 hx2 rfl fun w10 p7 k5 S7 h=>X0 8 rfl ?_
   replace h:=h.pick [2,3,1,4,5,6] rfl
   exact rK ⟨_,_,_,_,_,_,_,_,hF,rfl,h⟩ rfl
  refine X0 4 rfl (qm qb [.tmp 59] _ ([i13]:List Int) h rfl rfl rfl rfl rfl rfl rfl rfl rfl ⟨rfl,trivial⟩ rfl fun w11 p8 S8 h=>?_)
  obtain ⟨x3,hx3,hF⟩:=qe hF
  obtain ⟨g3,hx3⟩:=qr hx3
  refine qaf qb 2 h rfl (h.sl 0 rfl).1 (h.sl 0 rfl).2 rfl rfl rfl rfl rfl rfl rfl rfl rfl g3 hx3 rfl fun w12 p9 k6 S9 h=>X0 8 rfl ?_
  replace h:=h.pick [2,3,1,4,5,6] rfl
  exact rK ⟨_,_,_,_,_,_,_,_,hF,rfl,h⟩ rfl
 refine qp rfl ?_
 obtain rfl:=qc hF;replace hF:=hK1
 refine X0 5 rfl (r_v (qat qb [0,1,2] [.tmp 62,.tmp 63,.tmp 64] rfl rfl rfl rfl rfl rfl rfl rfl) rfl (zs 4 h rfl fun w16 h=>qa5 ?_))
 have hk1:=h
 obtain ⟨S10,h⟩:=h.gather [2,4,5] (qro (⟨r1,r2,x1⟩:qX) h (qC 3 h rfl) (qC 1 h rfl) (qC 0 h rfl) (by rfl) (by rfl)) rfl
 obtain rfl:=qc hF
 replace h:=h.pick [0,1,3] rfl
 exact qbx qb [GoT.v qX [.slice p2 r1.length k2,.slice p3 r2.length k3,.slice p5 x1.length k4]] ⟨⟨_,_,_,rfl,rfl,hk1.box 4 rfl,rfl⟩,trivial⟩ ⟨_,_,rfl,SH.unfr 1 1 h0 h rfl rfl⟩
def qcV (n:Nat) (s:Tl01Source) (base:Int):Option ((List qX) × Int × Int) :=
 (qg4 n (⟨s.code,s.at_,s.seed⟩:Tl01Source) base).bind fun o=>match o with
  | (r1,i1,i2) =>
   (qg4 n (⟨s.code,i1,i2⟩:Tl01Source) base).bind fun o=>match o with
    | (r2,i3,i4) =>
     some (([r1,r2]:List qX),i3,i4)
theorem qft {n:Nat} {w0 w:World} {F:List Ch} {s:Tl01Source} {bb1:Nat} {p1:Option Addr} {k1:Nat} {base:Int} (h0:SH w0 w (Ch.box bb1 (qan s p1 k1) 184::F)) (ha1:GoT.R w (Fr w0 F) s [.slice p1 s.code.length k1,.int .i64 s.at_,.int .i64 s.seed]) {r:((List qX) × Int × Int)} (hF:qcV n s base=some r):RetW Tryz.prog 242 [.pointer (some ⟨bb1,0,none⟩),.int .i64 base] w (fun us w'=>∃ (S1:Nat→Prop) (cs1:List Value),us=[GoT.v (List qX) cs1]∧SH w0 w' (Ch.own S1 (r.1:(List qX)) cs1::Ch.box bb1 [.slice p1 s.code.length k1,.int .i64 r.2.1,.int .i64 r.2.2] 184::F)):=by
 have h:=SH.frm1 h0 ha1
 refine qbr Tryz.func242 rfl (m:=14) rfl rfl (X0 8 rfl ?_)
 obtain ⟨o1,hr1,hF⟩:=qe hF
 obtain ⟨r1,i1,i2⟩:=o1
 refine qaV (cB 253 rfl) (qjf (a_0:=(⟨s.code,s.at_,s.seed⟩:Tl01Source)) (a_1:=base) h (show GoT.R _ _ ((⟨s.code,s.at_,s.seed⟩:Tl01Source):Tl01Source) _ from ⟨[.slice p1 s.code.length k1],[.int .i64 s.at_,.int .i64 s.seed],rfl,⟨_,_,rfl,(qf (h.frG 1 0 1 rfl rfl rfl)).1⟩,⟨[.int .i64 s.at_],[.int .i64 s.seed],rfl,rfl,rfl⟩⟩) hr1) rfl rfl rfl rfl ?_
 rintro w1 us1 ⟨S2,cs2,rfl,h⟩
 obtain ⟨p2,k2,p3,k3,p4,k4,rfl,-,-,-⟩:=qfm (h.own 0 rfl)
 replace h:SH _ _ [Ch.own S2 (r1:qX) (qhe r1 p2 p3 p4 k2 k3 k4),Ch.box bb1 [.slice p1 s.code.length k1,.int .i64 i1,.int .i64 i2] 184,Ch.grp (old w0) (FS F) [fct (s:Tl01Source) [.slice p1 s.code.length k1,.int .i64 s.at_,.int .i64 s.seed],same w0 w F]]:=h
 refine qB qb h rfl rfl rfl fun w2 bb2 h=>zs 0 h rfl fun w3 h=>zNS (rA [] [0] h rfl fun w4 h=>M1 7 [0,1,2] 0 (h.pick [0] rfl) rfl (Ao 3 15 rfl ?_))
 replace h:=h.pick [2,0,1,3] rfl
 obtain ⟨o2,hr2,hF⟩:=qe hF
 obtain ⟨r2,i3,i4⟩:=o2
 refine qaV (cB 253 rfl) (qjf (a_0:=(⟨s.code,i1,i2⟩:Tl01Source)) (a_1:=base) h (show GoT.R _ _ ((⟨s.code,i1,i2⟩:Tl01Source):Tl01Source) _ from ⟨[.slice p1 s.code.length k1],[.int .i64 i1,.int .i64 i2],rfl,⟨_,_,rfl,(qf (h.frG 3 0 1 rfl rfl rfl)).1⟩,⟨[.int .i64 i1],[.int .i64 i2],rfl,rfl,rfl⟩⟩) hr2) rfl rfl rfl rfl ?_
 rintro w5 us2 ⟨S3,cs3,rfl,h⟩
 obtain ⟨p5,k5,p6,k6,p7,k7,rfl,-,-,-⟩:=qfm (h.own 0 rfl)
 replace h:SH _ _ [Ch.own S3 (r2:qX) (qhe r2 p5 p6 p7 k5 k6 k7),Ch.box bb1 [.slice p1 s.code.length k1,.int .i64 i3,.int .i64 i4] 184,Ch.box bb2 (qhe r1 p2 p3 p4 k2 k3 k4) 292,Ch.own S2 (r1:qX) (qhe r1 p2 p3 p4 k2 k3 k4),Ch.grp (old w0) (FS F) [fct (s:Tl01Source) [.slice p1 s.code.length k1,.int .i64 s.at_,.int .i64 s.seed],same w0 w F]]:=h
 refine Ag (h.pick [2] rfl) (Ao 4 31 rfl (qdV qb [.tmp 9,.tmp 12] _ ([r1,r2]:List qX) [1,2,4] h rfl rfl rfl rfl rfl rfl rfl rfl rfl (qcn (qC 3 h rfl) (qcn (qC 0 h rfl) qgr rfl) rfl) rfl rfl fun w6 p8 S4 h=>G0 63 [5] (h.pick [2] rfl) rfl (Ad ?_)))
 obtain rfl:=qc hF
 replace h:=h.pick [0,1,3] rfl
 exact qbx qb [GoT.v (List qX) [.slice p8 2 2]] ⟨rfl,trivial⟩ ⟨_,_,rfl,SH.unfr 1 1 h0 h rfl rfl⟩
def qcK (n:Nat) (s:Tl01Source) (kind:Int) (a_from:Int) (a_to:Int) (sense:Int):Option (qav × Int × Int) :=
 bif decide (kind ≥ 4) then
  (qn n (⟨s.code,s.at_,s.seed⟩:Tl01Source) 10).bind fun o=>match o with
   | (i1,i2,i3) =>
    (qcV n (⟨s.code,i2,i3⟩:Tl01Source) (W64 (5-i1))).bind fun o=>match o with
     | (r1,i4,i5) =>
      some ((⟨kind,a_from,a_to,0,r1,[]⟩:qav),i4,i5)
 else
  (qn n (⟨s.code,s.at_,s.seed⟩:Tl01Source) 20).bind fun o=>match o with
   | (i6,i7,i8) =>
    (qcV n (⟨s.code,i7,i8⟩:Tl01Source) (W64 (5+i6))).bind fun o=>match o with
     | (r2,i9,i10) =>
      (qcV n (⟨s.code,i9,i10⟩:Tl01Source) 10).bind fun o=>match o with
       | (r3,i11,i12) =>
        some ((⟨kind,a_from,a_to,sense,r2,r3⟩:qav),i11,i12)
theorem qdD {n:Nat} {w0 w:World} {F:List Ch} {s:Tl01Source} {bb1:Nat} {p1:Option Addr} {k1:Nat} {kind:Int} {a_from:Int} {a_to:Int} {sense:Int} (h0:SH w0 w (Ch.box bb1 (qan s p1 k1) 184::F)) (ha1:GoT.R w (Fr w0 F) s [.slice p1 s.code.length k1,.int .i64 s.at_,.int .i64 s.seed]) {r:(qav × Int × Int)} (hF:qcK n s kind a_from a_to sense=some r):RetW Tryz.prog 231 [.pointer (some ⟨bb1,0,none⟩),.int .i64 kind,.int .i64 a_from,.int .i64 a_to,.int .i64 sense] w (fun us w'=>∃ (S1:Nat→Prop) (cs1:List Value),us=[GoT.v qav cs1]∧SH w0 w' (Ch.own S1 (r.1:qav) cs1::Ch.box bb1 [.slice p1 s.code.length k1,.int .i64 r.2.1,.int .i64 r.2.2] 184::F)):=by
 have h:=SH.frm1 h0 ha1
 refine qbr Tryz.func231 rfl (m:=36) rfl rfl (zSR (qB qb h rfl rfl rfl fun w1 bb2 h=>X0 7 rfl (qk rfl hF ?_ ?_)))<;>intro hF
 ·refine X0 7 rfl ?_
  replace h:=h.pick [1,0,2] rfl
  obtain ⟨o1,hr1,hF⟩:=qe hF
  obtain ⟨i1,i2,i3⟩:=o1
  refine nxC h ((qf (h.frG 2 0 1 rfl rfl rfl)).1) hr1 rfl rfl rfl fun w2 h=>zp1 rfl ?_
  obtain ⟨o2,hr2,hF⟩:=qe hF
  obtain ⟨r1,i4,i5⟩:=o2
  refine qaV (cB 242 rfl) (qft (s:=(⟨s.code,i2,i3⟩:Tl01Source)) (base:=(W64 (5-i1))) h (show GoT.R _ _ ((⟨s.code,i2,i3⟩:Tl01Source):Tl01Source) _ from ⟨[.slice p1 s.code.length k1],[.int .i64 i2,.int .i64 i3],rfl,⟨_,_,rfl,(qf (h.frG 2 0 1 rfl rfl rfl)).1⟩,⟨[.int .i64 i2],[.int .i64 i3],rfl,rfl,rfl⟩⟩) hr2) rfl rfl rfl rfl ?_
  rintro w3 us2 ⟨S2,cs2,rfl,h⟩
  obtain ⟨p2,k2,rfl,-⟩:=h.own 0 rfl
  replace h:SH _ _ [Ch.own S2 (r1:List qX) [.slice p2 r1.length k2],Ch.box bb1 [.slice p1 s.code.length k1,.int .i64 i4,.int .i64 i5] 184,Ch.box bb2 [.int .i64 0,.int .i64 0,.int .i64 0,.int .i64 0,.slice none 0 0,.slice none 0 0] 206,Ch.grp (old w0) (FS F) [fct (s:Tl01Source) [.slice p1 s.code.length k1,.int .i64 s.at_,.int .i64 s.seed],same w0 w F]]:=h
  refine r_v (qat qb [0,1,2,4] [.tmp 14,.tmp 15,.tmp 16,.tmp 21] rfl rfl rfl rfl rfl rfl rfl rfl) rfl (zs 2 h rfl fun w4 h=>qa5 ?_)
  have hk1:=h
  obtain ⟨S3,h⟩:=h.gather [1,2,3] (qqw (⟨kind,a_from,a_to,0,r1,[]⟩:qav) h (qu (S:=fun _=>False) rfl) (qu (S:=fun _=>False) rfl) (qu (S:=fun _=>False) rfl) (qu (S:=fun _=>False) rfl) (qC 0 h rfl) qeO (by rfl) (by rfl) (by rfl) (by rfl) (by rfl)) rfl
  obtain rfl:=qc hF
  replace h:=h.pick [0,1,3] rfl
  exact qbx qb [GoT.v qav [.int .i64 kind,.int .i64 a_from,.int .i64 a_to,.int .i64 0,.slice p2 r1.length k2,.slice none 0 0]] ⟨⟨_,_,_,rfl,rfl,hk1.box 2 rfl,rfl⟩,trivial⟩ ⟨_,_,rfl,SH.unfr 1 1 h0 h rfl rfl⟩
 refine X0 5 rfl ?_
 replace h:=h.pick [1,0,2] rfl
 obtain ⟨o3,hr3,hF⟩:=qe hF
 obtain ⟨i6,i7,i8⟩:=o3
 refine nxC h ((qf (h.frG 2 0 1 rfl rfl rfl)).1) hr3 rfl rfl rfl fun w5 h=>zp1 rfl ?_
 obtain ⟨o4,hr4,hF⟩:=qe hF
 obtain ⟨r2,i9,i10⟩:=o4
 refine qaV (cB 242 rfl) (qft (s:=(⟨s.code,i7,i8⟩:Tl01Source)) (base:=(W64 (5+i6))) h (show GoT.R _ _ ((⟨s.code,i7,i8⟩:Tl01Source):Tl01Source) _ from ⟨[.slice p1 s.code.length k1],[.int .i64 i7,.int .i64 i8],rfl,⟨_,_,rfl,(qf (h.frG 2 0 1 rfl rfl rfl)).1⟩,⟨[.int .i64 i7],[.int .i64 i8],rfl,rfl,rfl⟩⟩) hr4) rfl rfl rfl rfl ?_
 rintro w6 us4 ⟨S4,cs3,rfl,h⟩
 obtain ⟨p3,k3,rfl,-⟩:=h.own 0 rfl
 replace h:SH _ _ [Ch.own S4 (r2:List qX) [.slice p3 r2.length k3],Ch.box bb1 [.slice p1 s.code.length k1,.int .i64 i9,.int .i64 i10] 184,Ch.box bb2 [.int .i64 0,.int .i64 0,.int .i64 0,.int .i64 0,.slice none 0 0,.slice none 0 0] 206,Ch.grp (old w0) (FS F) [fct (s:Tl01Source) [.slice p1 s.code.length k1,.int .i64 s.at_,.int .i64 s.seed],same w0 w F]]:=h
 refine X0 10 rfl ?_
 replace h:=h.pick [1,0,2,3] rfl
 obtain ⟨o5,hr5,hF⟩:=qe hF
 obtain ⟨r3,i11,i12⟩:=o5
 refine qaV (cB 242 rfl) (qft (s:=(⟨s.code,i9,i10⟩:Tl01Source)) (base:=10) h (show GoT.R _ _ ((⟨s.code,i9,i10⟩:Tl01Source):Tl01Source) _ from ⟨[.slice p1 s.code.length k1],[.int .i64 i9,.int .i64 i10],rfl,⟨_,_,rfl,(qf (h.frG 3 0 1 rfl rfl rfl)).1⟩,⟨[.int .i64 i9],[.int .i64 i10],rfl,rfl,rfl⟩⟩) hr5) rfl rfl rfl rfl ?_
 rintro w7 us5 ⟨S5,cs4,rfl,h⟩
 obtain ⟨p4,k4,rfl,-⟩:=h.own 0 rfl
 replace h:SH _ _ [Ch.own S5 (r3:List qX) [.slice p4 r3.length k4],Ch.box bb1 [.slice p1 s.code.length k1,.int .i64 i11,.int .i64 i12] 184,Ch.own S4 (r2:List qX) [.slice p3 r2.length k3],Ch.box bb2 [.int .i64 0,.int .i64 0,.int .i64 0,.int .i64 0,.slice none 0 0,.slice none 0 0] 206,Ch.grp (old w0) (FS F) [fct (s:Tl01Source) [.slice p1 s.code.length k1,.int .i64 s.at_,.int .i64 s.seed],same w0 w F]]:=h
 refine r_v (qat qb [0,1,2,3,4,5] [.tmp 28,.tmp 29,.tmp 30,.tmp 31,.tmp 32,.tmp 34] rfl rfl rfl rfl rfl rfl rfl rfl) rfl (zs 3 h rfl fun w8 h=>qa5 ?_)
 have hk2:=h
 obtain ⟨S6,h⟩:=h.gather [1,3,4] (qqw (⟨kind,a_from,a_to,sense,r2,r3⟩:qav) h (qu (S:=fun _=>False) rfl) (qu (S:=fun _=>False) rfl) (qu (S:=fun _=>False) rfl) (qu (S:=fun _=>False) rfl) (qC 2 h rfl) (qC 0 h rfl) (by rfl) (by rfl) (by rfl) (by rfl) (by rfl)) rfl
 obtain rfl:=qc hF
 replace h:=h.pick [0,1,3] rfl
 exact qbx qb [GoT.v qav [.int .i64 kind,.int .i64 a_from,.int .i64 a_to,.int .i64 sense,.slice p3 r2.length k3,.slice p4 r3.length k4]] ⟨⟨_,_,_,rfl,rfl,hk2.box 3 rfl,rfl⟩,trivial⟩ ⟨_,_,rfl,SH.unfr 1 1 h0 h rfl rfl⟩
def qdl (a_0:Tl01Source) (a_1:ByteArray) (a_2:(List Int)) (i1:Int) (i4:Int) (x1:(List qak)) (x3:(List qak)):Nat→(List qav)→Int→Int→Int→Option ((List qav) × Int × Int × Int)
 | 0,_,_,_,_=>none
 | n+1,x4,i13,i14,i15 =>
  bif decide (i15<(x1.length:Int)) then
   (qi4 n (⟨a_1,1,x3,[],a_2,i1,i4⟩:qt) i15).bind fun r1 =>
   bif (r1 != 0) then
    (qcK n (⟨a_0.code,i13,i14⟩:Tl01Source) 1 i15 (x1.length:Int) r1).bind fun o=>match o with
     | (r2,i16,i17) =>
      (appS x4 ([r2]:List qav)).bind fun x5 =>
      qdl a_0 a_1 a_2 i1 i4 x1 x3 n x5 i16 i17 (W64 (i15+1))
   else
    qdl a_0 a_1 a_2 i1 i4 x1 x3 n x4 i13 i14 (W64 (i15+1))
  else
   some (x4,i13,i14,i15)
def qem (a_0:Tl01Source) (a_2:(List Int)):Nat→(List qak)→Int→Int→Int→Option ((List qak) × Int × Int × Int)
 | 0,_,_,_,_=>none
 | n+1,x1,i7,i8,i9 =>
  bif decide (i9<(a_2.length:Int)) then
   (idx ([(⟨#[97]⟩:ByteArray),(⟨#[98]⟩:ByteArray),(⟨#[99]⟩:ByteArray),(⟨#[100]⟩:ByteArray)]:List ByteArray) (x1.length:Int)).bind fun y1 =>
   (qn n (⟨a_0.code,i7,i8⟩:Tl01Source) 9).bind fun o=>match o with
    | (i10,i11,i12) =>
     (appS x1 ([(⟨y1,1,W64 (1+i10),false⟩:qak)]:List qak)).bind fun x2 =>
     qem a_0 a_2 n x2 i11 i12 (W64 (2*i9))
  else
   some (x1,i7,i8,i9)
def qeI (n:Nat) (a_0:Tl01Source) (a_1:ByteArray) (a_2:(List Int)):Option (qt × Int × Int) :=
 (qn n (⟨a_0.code,a_0.at_,a_0.seed⟩:Tl01Source) 50).bind fun o=>match o with
  | (i1,i2,i3) =>
   (qn n (⟨a_0.code,i2,i3⟩:Tl01Source) 80).bind fun o=>match o with
    | (i4,i5,i6) =>
     (qem a_0 a_2 n ([]:List qak) i5 i6 1).bind fun o=>match o with
     | (x1,i7,i8,_) =>
      (appS x1 ([(⟨(⟨#[121]⟩:ByteArray),2,0,false⟩:qak)]:List qak)).bind fun x3 =>
      (qdl a_0 a_1 a_2 i1 i4 x1 x3 n ([]:List qav) i7 i8 0).bind fun o=>match o with
      | (x4,i13,i14,_) =>
       some ((⟨a_1,1,x3,x4,a_2,i1,i4⟩:qt),i13,i14)
theorem qe7 {n:Nat} {w0 w:World} {F:List Ch} {a_0:Tl01Source} {bb1:Nat} {p1:Option Addr} {k1:Nat} {a_1:ByteArray} {a_2:(List Int)} {S1:Nat→Prop} {p2:Option Addr} {k2:Nat} (h0:SH w0 w (Ch.box bb1 (qan a_0 p1 k1) 184::Ch.own S1 (a_2:List Int) [.slice p2 a_2.length k2]::F)) (ha1:GoT.R w (Fr w0 F) a_0 [.slice p1 a_0.code.length k1,.int .i64 a_0.at_,.int .i64 a_0.seed]) {r:(qt × Int × Int)} (hF:qeI n a_0 a_1 a_2=some r):RetW Tryz.prog 209 [.pointer (some ⟨bb1,0,none⟩),.string a_1,.slice p2 a_2.length k2] w (fun us w'=>∃ (S2:Nat→Prop) (cs1:List Value),us=[GoT.v qt cs1]∧SH w0 w' (Ch.own S2 (r.1:qt) cs1::Ch.box bb1 [.slice p1 a_0.code.length k1,.int .i64 r.2.1,.int .i64 r.2.2] 184::F)):=by
 have h:=SH.frame [Ch.box bb1 (qan a_0 p1 k1) 184,Ch.own S1 (a_2:List Int) [.slice p2 a_2.length k2]] h0
 replace h:=h.grpAdd 2 rfl ha1
 replace h:SH _ _ [Ch.box bb1 (qan a_0 p1 k1) 184,Ch.own S1 (a_2:List Int) [.slice p2 a_2.length k2],Ch.grp (old w0) (FS F) [fct (a_0:Tl01Source) [.slice p1 a_0.code.length k1,.int .i64 a_0.at_,.int .i64 a_0.seed],same w0 w F]]:=h
 refine qbr Tryz.func209 rfl (m:=71) rfl rfl (zSR (qB qb h rfl rfl rfl fun w1 bb2 h=>zNSR (qm qb [.const (.string (⟨#[97]⟩:ByteArray)),.const (.string (⟨#[98]⟩:ByteArray)),.const (.string (⟨#[99]⟩:ByteArray)),.const (.string (⟨#[100]⟩:ByteArray))] _ ([(⟨#[97]⟩:ByteArray),(⟨#[98]⟩:ByteArray),(⟨#[99]⟩:ByteArray),(⟨#[100]⟩:ByteArray)]:List ByteArray) h rfl rfl rfl rfl rfl rfl rfl rfl rfl ⟨rfl,rfl,rfl,rfl,trivial⟩ rfl fun w2 p3 S3 h=>X0 7 rfl ?_)))
 replace h:=h.pick [2,0,1,3,4] rfl
 obtain ⟨o1,hr1,hF⟩:=qe hF
 obtain ⟨i1,i2,i3⟩:=o1
 refine nxC h ((qf (h.frG 4 0 1 rfl rfl rfl)).1) hr1 rfl rfl rfl fun w3 h=>zp1 rfl ?_
 obtain ⟨o2,hr2,hF⟩:=qe hF
 obtain ⟨i4,i5,i6⟩:=o2
 refine nxC h ((qf (h.frG 4 0 1 rfl rfl rfl)).1) hr2 rfl rfl rfl fun w4 h=>r_v (qat qb [0,1,4,5,6] [.tmp 16,.const (.int .i64 (1)),.tmp 17,.tmp 19,.tmp 21] rfl rfl rfl rfl rfl rfl rfl rfl) rfl (qB qb h rfl rfl rfl fun w5 bb3 h=>zs 0 h rfl fun w6 h=>zNSR (qm qb [] _ ([]:List qak) h rfl rfl rfl rfl rfl rfl rfl rfl rfl trivial rfl fun w7 p4 S4 h=>X0 7 rfl ?_))
 obtain ⟨o3,hF,hK1⟩:=qe hF
 refine ql (rL (fun m e w'=>∃ (S5:Nat→Prop) (p5:Option Addr) (ln1:Nat) (k3:Nat) (x1:(List qak)) (i7:Int) (i8:Int) (i9:Int),qem a_0 a_2 m x1 i7 i8 i9=some o3∧e=[(0,.pointer (some ⟨bb1,0,none⟩)),(2,.slice p2 a_2.length k2),(6,.pointer (some ⟨bb2,0,none⟩)),(7,.slice p3 4 4),(8,.pointer (some ⟨bb3,0,none⟩)),(9,.slice p5 ln1 k3),(10,.int .i64 i9)]∧SH w0 w' [Ch.own S5 (x1:List qak) [.slice p5 ln1 k3],Ch.box bb3 [.string a_1,.int .i64 1,.slice none 0 0,.slice none 0 0,.slice p2 a_2.length k2,.int .i64 i1,.int .i64 i4] 201,Ch.box bb1 [.slice p1 a_0.code.length k1,.int .i64 i7,.int .i64 i8] 184,Ch.own S3 (([(⟨#[97]⟩:ByteArray),(⟨#[98]⟩:ByteArray),(⟨#[99]⟩:ByteArray),(⟨#[100]⟩:ByteArray)]:List ByteArray):List ByteArray) [.slice p3 4 4],Ch.box bb2 [.string ByteArray.empty,.int .i64 0,.slice none 0 0,.slice none 0 0,.slice none 0 0,.int .i64 0,.int .i64 0] 201,Ch.own S1 (a_2:List Int) [.slice p2 a_2.length k2],Ch.grp (old w0) (FS F) [fct (a_0:Tl01Source) [.slice p1 a_0.code.length k1,.int .i64 a_0.at_,.int .i64 a_0.seed],same w0 w F]]) n ⟨_,_,_,_,_,_,_,_,hF,rfl,h⟩ rfl ?_)
 rintro m1 e1 w8 ⟨S5,p5,ln1,k3,x1,i7,i8,i9,hF,rfl,h⟩
 obtain rfl:=(h.sl 0 rfl).2
 rcases m1 with _|m1
 ·cases hF
 refine X0 8 rfl (qk rfl hF ?_ ?_)<;>intro hF
 ·refine zKSB (rA [] [3] h rfl fun w9 h=>M0 15 [0,1,2,3] (h.pick [3] rfl) rfl ?_)
  obtain ⟨y1,hy1,hF,he1,b1,_,q1,cs2,hp1,hq1,rfl,hc2⟩:=(h.sl 3 rfl).1.ix hF
  refine Ax 4 31 hp1 hq1 ⟨he1.1,qI he1.2.1 (h.sl 3 rfl).2⟩ (h.pick [3] rfl) rfl (Aw 5 63 (fun w' hw=>qfk qb (qbo (w1:=w) (S1:=fun _=>False) hw 0 rfl hy1 hp1 hq1 rfl) (j:=0) rfl rfl rfl) (h.pick [3] rfl) rfl ?_)
  refine M0 127 [6] (h.pick [3] rfl) rfl (Ao 7 255 rfl ?_)
  replace h:=h.pick [2,0,1,3,4,5,6] rfl
  obtain ⟨o4,hr4,hF⟩:=qe hF
  obtain ⟨i10,i11,i12⟩:=o4
  refine nxC h ((qf (h.frG 6 0 1 rfl rfl rfl)).1) hr4 rfl rfl rfl fun w10 h=>G0 511 [8] (h.pick [3] rfl) rfl (Aw 9 1023 (fun w' hw=>qat qb [0,1,2] [.tmp 35,.const (.int .i64 (1)),.tmp 38] rfl rfl rfl rfl rfl rfl rfl rfl) (h.pick [3] rfl) rfl ?_)
  refine Ao 10 2047 rfl (qm qb [.tmp 39] _ ([(⟨y1,1,W64 (1+i10),false⟩:qak)]:List qak) h rfl rfl rfl rfl rfl rfl rfl rfl rfl ⟨(qi9 (⟨y1,1,W64 (1+i10),false⟩:qak)),trivial⟩ rfl fun w11 p6 S6 h=>Ag (h.pick [4] rfl) (Ao 11 4095 rfl ?_))
  obtain ⟨x2,hx1,hF⟩:=qe hF
  obtain ⟨g1,hx1⟩:=qr hx1
  refine qaf qb 2 h rfl (h.sl 0 rfl).1 (h.sl 0 rfl).2 rfl rfl rfl rfl rfl rfl rfl rfl rfl g1 hx1 rfl fun w12 p7 k4 S7 h=>G0 8191 [12] (h.pick [4] rfl) rfl (Ad (X0 6 rfl ?_))
  replace h:=h.pick [2,3,1,4,5,6,7] rfl
  exact rK ⟨_,_,_,_,_,_,_,_,hF,rfl,h⟩ rfl
 refine qp rfl ?_
 obtain rfl:=qc hF;replace hF:=hK1
 refine X0 9 rfl (r_v (qat qb [0,1] [.const (.string (⟨#[121]⟩:ByteArray)),.const (.int .i64 (2))] rfl rfl rfl rfl rfl rfl rfl rfl) rfl (qm qb [.tmp 45] _ ([(⟨(⟨#[121]⟩:ByteArray),2,0,false⟩:qak)]:List qak) h rfl rfl rfl rfl rfl rfl rfl rfl rfl ⟨(qi9 (⟨(⟨#[121]⟩:ByteArray),2,0,false⟩:qak)),trivial⟩ rfl fun w13 p8 S8 h=>?_))
 obtain ⟨x3,hx2,hF⟩:=qe hF
 obtain ⟨g2,hx2⟩:=qr hx2
 refine qaf qb 1 h rfl (h.sl 0 rfl).1 (h.sl 0 rfl).2 rfl rfl rfl rfl rfl rfl rfl rfl rfl g2 hx2 rfl fun w14 p9 k5 S9 h=>zp1 rfl (zs 2 h rfl fun w15 h=>zNSR (qdV qb [] _ ([]:List qav) [0,1,2,3,4,5,6,7] h rfl rfl rfl rfl rfl rfl rfl rfl rfl qgr rfl rfl fun w16 p10 S10 h=>X0 7 rfl ?_))
 obtain ⟨o5,hF,hK2⟩:=qe hF
 refine ql ?_
 replace h:=h.pick [0,2,3,4,6,7,8] rfl
 refine rL (fun m e w'=>∃ (S11:Nat→Prop) (p11:Option Addr) (ln2:Nat) (k6:Nat) (x4:(List qav)) (i13:Int) (i14:Int) (i15:Int),qdl a_0 a_1 a_2 i1 i4 x1 x3 m x4 i13 i14 i15=some o5∧e=[(0,.pointer (some ⟨bb1,0,none⟩)),(6,.pointer (some ⟨bb2,0,none⟩)),(8,.pointer (some ⟨bb3,0,none⟩)),(11,.int .i64 (x1.length:Int)),(12,.slice p11 ln2 k6),(13,.int .i64 i15)]∧SH w0 w' [Ch.own S11 (x4:List qav) [.slice p11 ln2 k6],Ch.own S9 (x3:List qak) [.slice p9 x3.length k5],Ch.box bb3 [.string a_1,.int .i64 1,.slice p9 x3.length k5,.slice none 0 0,.slice p2 a_2.length k2,.int .i64 i1,.int .i64 i4] 201,Ch.box bb1 [.slice p1 a_0.code.length k1,.int .i64 i13,.int .i64 i14] 184,Ch.box bb2 [.string ByteArray.empty,.int .i64 0,.slice none 0 0,.slice none 0 0,.slice none 0 0,.int .i64 0,.int .i64 0] 201,Ch.own S1 (a_2:List Int) [.slice p2 a_2.length k2],Ch.grp (old w0) (FS F) [fct (a_0:Tl01Source) [.slice p1 a_0.code.length k1,.int .i64 a_0.at_,.int .i64 a_0.seed],same w0 w F]]) n ⟨_,_,_,_,_,_,_,_,hF,rfl,h⟩ rfl ?_
 rintro m2 e2 w17 ⟨S11,p11,ln2,k6,x4,i13,i14,i15,hF,rfl,h⟩
 obtain rfl:=(h.sl 0 rfl).2
 rcases m2 with _|m2
 ·cases hF
 refine X0 7 rfl (qk rfl hF ?_ ?_)<;>intro hF
 ·refine X1 7 2 h rfl (zcI h hF (ql0 (show GoT.R _ _ ((⟨a_1,1,x3,[],a_2,i1,i4⟩:qt):qt) _ from ⟨[.string a_1],[.int .i64 1,.slice p9 x3.length k5,.slice none 0 0,.slice p2 a_2.length k2,.int .i64 i1,.int .i64 i4],rfl,rfl,⟨[.int .i64 1],[.slice p9 x3.length k5,.slice none 0 0,.slice p2 a_2.length k2,.int .i64 i1,.int .i64 i4],rfl,rfl,⟨[.slice p9 x3.length k5],[.slice none 0 0,.slice p2 a_2.length k2,.int .i64 i1,.int .i64 i4],rfl,(h.own 1 rfl),⟨[.slice none 0 0],[.slice p2 a_2.length k2,.int .i64 i1,.int .i64 i4],rfl,⟨_,_,rfl,qow⟩,⟨[.slice p2 a_2.length k2],[.int .i64 i1,.int .i64 i4],rfl,(h.own 5 rfl),⟨[.int .i64 i1],[.int .i64 i4],rfl,rfl,rfl⟩⟩⟩⟩⟩⟩)) rfl fun r1 w18 h hF=>X0 7 rfl (qk rfl hF ?_ ?_))<;>intro hF
  ·refine X0 6 rfl ?_
   replace h:=h.pick [3,0,1,2,4,5,6] rfl
   obtain ⟨o6,hr6,hF⟩:=qe hF
   obtain ⟨r2,i16,i17⟩:=o6
   refine qaV (cB 231 rfl) (qdD (s:=(⟨a_0.code,i13,i14⟩:Tl01Source)) (kind:=1) (a_from:=i15) (a_to:=(x1.length:Int)) (sense:=r1) h (show GoT.R _ _ ((⟨a_0.code,i13,i14⟩:Tl01Source):Tl01Source) _ from ⟨[.slice p1 a_0.code.length k1],[.int .i64 i13,.int .i64 i14],rfl,⟨_,_,rfl,(qf (h.frG 6 0 1 rfl rfl rfl)).1⟩,⟨[.int .i64 i13],[.int .i64 i14],rfl,rfl,rfl⟩⟩) hr6) rfl rfl rfl rfl ?_
   rintro w19 us4 ⟨S12,cs3,rfl,h⟩
   obtain ⟨p12,k7,p13,k8,rfl,-,-⟩:=qaL (h.own 0 rfl)
   replace h:SH _ _ [Ch.own S12 (r2:qav) (qf3 r2 p12 p13 k7 k8),Ch.box bb1 [.slice p1 a_0.code.length k1,.int .i64 i16,.int .i64 i17] 184,Ch.own S11 (x4:List qav) [.slice p11 x4.length k6],Ch.own S9 (x3:List qak) [.slice p9 x3.length k5],Ch.box bb3 [.string a_1,.int .i64 1,.slice p9 x3.length k5,.slice none 0 0,.slice p2 a_2.length k2,.int .i64 i1,.int .i64 i4] 201,Ch.box bb2 [.string ByteArray.empty,.int .i64 0,.slice none 0 0,.slice none 0 0,.slice none 0 0,.int .i64 0,.int .i64 0] 201,Ch.own S1 (a_2:List Int) [.slice p2 a_2.length k2],Ch.grp (old w0) (FS F) [fct (a_0:Tl01Source) [.slice p1 a_0.code.length k1,.int .i64 a_0.at_,.int .i64 a_0.seed],same w0 w F]]:=h
   refine qdV qb [.tmp 65] _ ([r2]:List qav) [1,2,3,4,5,6,7] h rfl rfl rfl rfl rfl rfl rfl rfl rfl (qcn (qC 0 h rfl) qgr rfl) rfl rfl fun w20 p14 S13 h=>?_
   obtain ⟨x5,hx3,hF⟩:=qe hF
   obtain ⟨g3,hx3⟩:=qr hx3
   replace h:=h.pick [0,2,1,3,4,5,6,7] rfl
   refine qkV qb h rfl rfl rfl rfl rfl rfl rfl rfl rfl g3 hx3 rfl fun w21 p15 k9 S14 h=>X0 8 rfl ?_
   replace h:=h.pick [0,2,3,1,4,5,6] rfl
   exact rK ⟨_,_,_,_,_,_,_,_,hF,rfl,h⟩ rfl
  exact X0 7 rfl (rK ⟨_,_,_,_,_,_,_,_,hF,rfl,h⟩ rfl)
 refine qp rfl ?_
 obtain rfl:=qc hF;replace hF:=hK2
 refine X0 4 rfl (zs 2 h rfl fun w22 h=>X1 4 2 h rfl (zs 4 h rfl fun w23 h=>qa5 ?_))
 have hk1:=h
 obtain ⟨S15,h⟩:=h.gather [2,3,4,6] (qny (⟨a_1,1,x3,x4,a_2,i1,i4⟩:qt) h (qu (S:=fun _=>False) rfl) (qu (S:=fun _=>False) rfl) (qC 1 h rfl) (qC 0 h rfl) (qC 5 h rfl) (qu (S:=fun _=>False) rfl) (qu (S:=fun _=>False) rfl) (by rfl) (by rfl) (by rfl) (by rfl) (by rfl) (by rfl)) rfl
 obtain rfl:=qc hF
 replace h:=h.pick [0,2,4] rfl
 exact qbx qb [GoT.v qt [.string a_1,.int .i64 1,.slice p9 x3.length k5,.slice p11 x4.length k6,.slice p2 a_2.length k2,.int .i64 i1,.int .i64 i4]] ⟨⟨_,_,_,rfl,rfl,hk1.box 4 rfl,rfl⟩,trivial⟩ ⟨_,_,rfl,SH.unfr 2 1 h0 h rfl rfl⟩
def qd1 (n:Nat) (s:Tl01Source) (name:ByteArray) (kind:Int) (edge:Int):Option (qt × Int × Int) :=
 (qn n (⟨s.code,s.at_,s.seed⟩:Tl01Source) 50).bind fun o=>match o with
  | (i1,i2,i3) =>
   (qn n (⟨s.code,i2,i3⟩:Tl01Source) 80).bind fun o=>match o with
    | (i4,i5,i6) =>
     (qn n (⟨s.code,i5,i6⟩:Tl01Source) 9).bind fun o=>match o with
      | (i7,i8,i9) =>
       (qn n (⟨s.code,i8,i9⟩:Tl01Source) 9).bind fun o=>match o with
        | (i10,i11,i12) =>
         (qcK n (⟨s.code,i11,i12⟩:Tl01Source) edge 1 2 0).bind fun o=>match o with
          | (r1,i13,i14) =>
           (qcK n (⟨s.code,i13,i14⟩:Tl01Source) 4 1 0 0).bind fun o=>match o with
            | (r2,i15,i16) =>
             (qcK n (⟨s.code,i15,i16⟩:Tl01Source) 5 1 0 0).bind fun o=>match o with
              | (r3,i17,i18) =>
               bif (kind==3) then
                (qcK n (⟨s.code,i17,i18⟩:Tl01Source) 1 0 2 1).bind fun o=>match o with
                 | (r4,i19,i20) =>
                  (appS ([r1,r2,r3]:List qav) ([r4]:List qav)).bind fun x1 =>
                  some ((⟨name,kind,([(⟨(⟨#[100]⟩:ByteArray),1,W64 (1+i7),false⟩:qak),(⟨(⟨#[99,107]⟩:ByteArray),1,W64 (1+i10),true⟩:qak),(⟨(⟨#[113]⟩:ByteArray),2,0,false⟩:qak)]:List qak),x1,[],i1,i4⟩:qt),i19,i20)
               else
                some ((⟨name,kind,([(⟨(⟨#[100]⟩:ByteArray),1,W64 (1+i7),false⟩:qak),(⟨(⟨#[99,107]⟩:ByteArray),1,W64 (1+i10),true⟩:qak),(⟨(⟨#[113]⟩:ByteArray),2,0,false⟩:qak)]:List qak),([r1,r2,r3]:List qav),[],i1,i4⟩:qt),i17,i18)
theorem qfS {n:Nat} {w0 w:World} {F:List Ch} {s:Tl01Source} {bb1:Nat} {p1:Option Addr} {k1:Nat} {name:ByteArray} {kind:Int} {edge:Int} (h0:SH w0 w (Ch.box bb1 (qan s p1 k1) 184::F)) (ha1:GoT.R w (Fr w0 F) s [.slice p1 s.code.length k1,.int .i64 s.at_,.int .i64 s.seed]) {r:(qt × Int × Int)} (hF:qd1 n s name kind edge=some r):RetW Tryz.prog 210 [.pointer (some ⟨bb1,0,none⟩),.string name,.int .i64 kind,.int .i64 edge] w (fun us w'=>∃ (S1:Nat→Prop) (cs1:List Value),us=[GoT.v qt cs1]∧SH w0 w' (Ch.own S1 (r.1:qt) cs1::Ch.box bb1 [.slice p1 s.code.length k1,.int .i64 r.2.1,.int .i64 r.2.2] 184::F)):=by
 have h:=SH.frm1 h0 ha1
 refine qbr Tryz.func210 rfl (m:=47) rfl rfl (zSR (qB qb h rfl rfl rfl fun w1 bb2 h=>X0 6 rfl ?_))
 replace h:=h.pick [1,0,2] rfl
 obtain ⟨o1,hr1,hF⟩:=qe hF
 obtain ⟨i1,i2,i3⟩:=o1
 refine nxC h ((qf (h.frG 2 0 1 rfl rfl rfl)).1) hr1 rfl rfl rfl fun w2 h=>zp1 rfl ?_
 obtain ⟨o2,hr2,hF⟩:=qe hF
 obtain ⟨i4,i5,i6⟩:=o2
 refine nxC h ((qf (h.frG 2 0 1 rfl rfl rfl)).1) hr2 rfl rfl rfl fun w3 h=>r_v (qat qb [0,1,5,6] [.tmp 11,.tmp 12,.tmp 14,.tmp 16] rfl rfl rfl rfl rfl rfl rfl rfl) rfl (qB qb h rfl rfl rfl fun w4 bb3 h=>zs 0 h rfl fun w5 h=>X0 4 rfl ?_)
 replace h:=h.pick [1,0,2,3] rfl
 obtain ⟨o3,hr3,hF⟩:=qe hF
 obtain ⟨i7,i8,i9⟩:=o3
 refine nxC h ((qf (h.frG 3 0 1 rfl rfl rfl)).1) hr3 rfl rfl rfl fun w6 h=>zp1 rfl (r_v (qat qb [0,1,2] [.const (.string (⟨#[100]⟩:ByteArray)),.const (.int .i64 (1)),.tmp 20] rfl rfl rfl rfl rfl rfl rfl rfl) rfl (zp1 rfl ?_))
 obtain ⟨o4,hr4,hF⟩:=qe hF
 obtain ⟨i10,i11,i12⟩:=o4
 refine nxC h ((qf (h.frG 3 0 1 rfl rfl rfl)).1) hr4 rfl rfl rfl fun w7 h=>zp1 rfl (r_v (qat qb [0,1,2,3] [.const (.string (⟨#[99,107]⟩:ByteArray)),.const (.int .i64 (1)),.tmp 24,.const (.bool true)] rfl rfl rfl rfl rfl rfl rfl rfl) rfl (r_v (qat qb [0,1] [.const (.string (⟨#[113]⟩:ByteArray)),.const (.int .i64 (2))] rfl rfl rfl rfl rfl rfl rfl rfl) rfl (qm qb [.tmp 21,.tmp 25,.tmp 26] _ ([(⟨(⟨#[100]⟩:ByteArray),1,W64 (1+i7),false⟩:qak),(⟨(⟨#[99,107]⟩:ByteArray),1,W64 (1+i10),true⟩:qak),(⟨(⟨#[113]⟩:ByteArray),2,0,false⟩:qak)]:List qak) h rfl rfl rfl rfl rfl rfl rfl rfl rfl ⟨(qi9 (⟨(⟨#[100]⟩:ByteArray),1,W64 (1+i7),false⟩:qak)),(qi9 (⟨(⟨#[99,107]⟩:ByteArray),1,W64 (1+i10),true⟩:qak)),(qi9 (⟨(⟨#[113]⟩:ByteArray),2,0,false⟩:qak)),trivial⟩ rfl fun w8 p2 S2 h=>zp1 rfl (zs 2 h rfl fun w9 h=>X0 5 rfl ?_))))
 replace h:=h.pick [1,0,2,3,4] rfl
 obtain ⟨o5,hr5,hF⟩:=qe hF
 obtain ⟨r1,i13,i14⟩:=o5
 refine qaV (cB 231 rfl) (qdD (s:=(⟨s.code,i11,i12⟩:Tl01Source)) (kind:=edge) (a_from:=1) (a_to:=2) (sense:=0) h (show GoT.R _ _ ((⟨s.code,i11,i12⟩:Tl01Source):Tl01Source) _ from ⟨[.slice p1 s.code.length k1],[.int .i64 i11,.int .i64 i12],rfl,⟨_,_,rfl,(qf (h.frG 4 0 1 rfl rfl rfl)).1⟩,⟨[.int .i64 i11],[.int .i64 i12],rfl,rfl,rfl⟩⟩) hr5) rfl rfl rfl rfl ?_
 rintro w10 us5 ⟨S3,cs2,rfl,h⟩
 obtain ⟨p3,k2,p4,k3,rfl,-,-⟩:=qaL (h.own 0 rfl)
 replace h:SH _ _ [Ch.own S3 (r1:qav) (qf3 r1 p3 p4 k2 k3),Ch.box bb1 [.slice p1 s.code.length k1,.int .i64 i13,.int .i64 i14] 184,Ch.own S2 (([(⟨(⟨#[100]⟩:ByteArray),1,W64 (1+i7),false⟩:qak),(⟨(⟨#[99,107]⟩:ByteArray),1,W64 (1+i10),true⟩:qak),(⟨(⟨#[113]⟩:ByteArray),2,0,false⟩:qak)]:List qak):List qak) [.slice p2 3 3],Ch.box bb3 [.string name,.int .i64 kind,.slice p2 3 3,.slice none 0 0,.slice none 0 0,.int .i64 i1,.int .i64 i4] 201,Ch.box bb2 [.string ByteArray.empty,.int .i64 0,.slice none 0 0,.slice none 0 0,.slice none 0 0,.int .i64 0,.int .i64 0] 201,Ch.grp (old w0) (FS F) [fct (s:Tl01Source) [.slice p1 s.code.length k1,.int .i64 s.at_,.int .i64 s.seed],same w0 w F]]:=h
 refine zp1 rfl ?_
 replace h:=h.pick [1,0,2,3,4,5] rfl
 obtain ⟨o6,hr6,hF⟩:=qe hF
 obtain ⟨r2,i15,i16⟩:=o6
 refine qaV (cB 231 rfl) (qdD (s:=(⟨s.code,i13,i14⟩:Tl01Source)) (kind:=4) (a_from:=1) (a_to:=0) (sense:=0) h (show GoT.R _ _ ((⟨s.code,i13,i14⟩:Tl01Source):Tl01Source) _ from ⟨[.slice p1 s.code.length k1],[.int .i64 i13,.int .i64 i14],rfl,⟨_,_,rfl,(qf (h.frG 5 0 1 rfl rfl rfl)).1⟩,⟨[.int .i64 i13],[.int .i64 i14],rfl,rfl,rfl⟩⟩) hr6) rfl rfl rfl rfl ?_
 rintro w11 us6 ⟨S4,cs3,rfl,h⟩
 obtain ⟨p5,k4,p6,k5,rfl,-,-⟩:=qaL (h.own 0 rfl)
 replace h:SH _ _ [Ch.own S4 (r2:qav) (qf3 r2 p5 p6 k4 k5),Ch.box bb1 [.slice p1 s.code.length k1,.int .i64 i15,.int .i64 i16] 184,Ch.own S3 (r1:qav) (qf3 r1 p3 p4 k2 k3),Ch.own S2 (([(⟨(⟨#[100]⟩:ByteArray),1,W64 (1+i7),false⟩:qak),(⟨(⟨#[99,107]⟩:ByteArray),1,W64 (1+i10),true⟩:qak),(⟨(⟨#[113]⟩:ByteArray),2,0,false⟩:qak)]:List qak):List qak) [.slice p2 3 3],Ch.box bb3 [.string name,.int .i64 kind,.slice p2 3 3,.slice none 0 0,.slice none 0 0,.int .i64 i1,.int .i64 i4] 201,Ch.box bb2 [.string ByteArray.empty,.int .i64 0,.slice none 0 0,.slice none 0 0,.slice none 0 0,.int .i64 0,.int .i64 0] 201,Ch.grp (old w0) (FS F) [fct (s:Tl01Source) [.slice p1 s.code.length k1,.int .i64 s.at_,.int .i64 s.seed],same w0 w F]]:=h
 refine zp1 rfl ?_
 replace h:=h.pick [1,0,2,3,4,5,6] rfl
 obtain ⟨o7,hr7,hF⟩:=qe hF
 obtain ⟨r3,i17,i18⟩:=o7
 refine qaV (cB 231 rfl) (qdD (s:=(⟨s.code,i15,i16⟩:Tl01Source)) (kind:=5) (a_from:=1) (a_to:=0) (sense:=0) h (show GoT.R _ _ ((⟨s.code,i15,i16⟩:Tl01Source):Tl01Source) _ from ⟨[.slice p1 s.code.length k1],[.int .i64 i15,.int .i64 i16],rfl,⟨_,_,rfl,(qf (h.frG 6 0 1 rfl rfl rfl)).1⟩,⟨[.int .i64 i15],[.int .i64 i16],rfl,rfl,rfl⟩⟩) hr7) rfl rfl rfl rfl ?_
 rintro w12 us7 ⟨S5,cs4,rfl,h⟩
 obtain ⟨p7,k6,p8,k7,rfl,-,-⟩:=qaL (h.own 0 rfl)
 replace h:SH _ _ [Ch.own S5 (r3:qav) (qf3 r3 p7 p8 k6 k7),Ch.box bb1 [.slice p1 s.code.length k1,.int .i64 i17,.int .i64 i18] 184,Ch.own S4 (r2:qav) (qf3 r2 p5 p6 k4 k5),Ch.own S3 (r1:qav) (qf3 r1 p3 p4 k2 k3),Ch.own S2 (([(⟨(⟨#[100]⟩:ByteArray),1,W64 (1+i7),false⟩:qak),(⟨(⟨#[99,107]⟩:ByteArray),1,W64 (1+i10),true⟩:qak),(⟨(⟨#[113]⟩:ByteArray),2,0,false⟩:qak)]:List qak):List qak) [.slice p2 3 3],Ch.box bb3 [.string name,.int .i64 kind,.slice p2 3 3,.slice none 0 0,.slice none 0 0,.int .i64 i1,.int .i64 i4] 201,Ch.box bb2 [.string ByteArray.empty,.int .i64 0,.slice none 0 0,.slice none 0 0,.slice none 0 0,.int .i64 0,.int .i64 0] 201,Ch.grp (old w0) (FS F) [fct (s:Tl01Source) [.slice p1 s.code.length k1,.int .i64 s.at_,.int .i64 s.seed],same w0 w F]]:=h
 refine qdV qb [.tmp 31,.tmp 33,.tmp 35] _ ([r1,r2,r3]:List qav) [1,4,5,6,7] h rfl rfl rfl rfl rfl rfl rfl rfl rfl (qcn (qC 3 h rfl) (qcn (qC 2 h rfl) (qcn (qC 0 h rfl) qgr rfl) rfl) rfl) rfl rfl fun w13 p9 S6 h=>X0 8 rfl (qk rfl hF ?_ ?_)<;>intro hF
 ·refine X0 3 rfl ?_
  replace h:=h.pick [1,0,2,3,4,5] rfl
  obtain ⟨o8,hr8,hF⟩:=qe hF
  obtain ⟨r4,i19,i20⟩:=o8
  refine qaV (cB 231 rfl) (qdD (s:=(⟨s.code,i17,i18⟩:Tl01Source)) (kind:=1) (a_from:=0) (a_to:=2) (sense:=1) h (show GoT.R _ _ ((⟨s.code,i17,i18⟩:Tl01Source):Tl01Source) _ from ⟨[.slice p1 s.code.length k1],[.int .i64 i17,.int .i64 i18],rfl,⟨_,_,rfl,(qf (h.frG 5 0 1 rfl rfl rfl)).1⟩,⟨[.int .i64 i17],[.int .i64 i18],rfl,rfl,rfl⟩⟩) hr8) rfl rfl rfl rfl ?_
  rintro w14 us8 ⟨S7,cs5,rfl,h⟩
  obtain ⟨p10,k8,p11,k9,rfl,-,-⟩:=qaL (h.own 0 rfl)
  replace h:SH _ _ [Ch.own S7 (r4:qav) (qf3 r4 p10 p11 k8 k9),Ch.box bb1 [.slice p1 s.code.length k1,.int .i64 i19,.int .i64 i20] 184,Ch.own S6 (([r1,r2,r3]:List qav):List qav) [.slice p9 3 3],Ch.own S2 (([(⟨(⟨#[100]⟩:ByteArray),1,W64 (1+i7),false⟩:qak),(⟨(⟨#[99,107]⟩:ByteArray),1,W64 (1+i10),true⟩:qak),(⟨(⟨#[113]⟩:ByteArray),2,0,false⟩:qak)]:List qak):List qak) [.slice p2 3 3],Ch.box bb3 [.string name,.int .i64 kind,.slice p2 3 3,.slice none 0 0,.slice none 0 0,.int .i64 i1,.int .i64 i4] 201,Ch.box bb2 [.string ByteArray.empty,.int .i64 0,.slice none 0 0,.slice none 0 0,.slice none 0 0,.int .i64 0,.int .i64 0] 201,Ch.grp (old w0) (FS F) [fct (s:Tl01Source) [.slice p1 s.code.length k1,.int .i64 s.at_,.int .i64 s.seed],same w0 w F]]:=h
  refine qdV qb [.tmp 41] _ ([r4]:List qav) [1,2,3,4,5,6] h rfl rfl rfl rfl rfl rfl rfl rfl rfl (qcn (qC 0 h rfl) qgr rfl) rfl rfl fun w15 p12 S8 h=>?_
  obtain ⟨x1,hx1,hF⟩:=qe hF
  obtain ⟨g1,hx1⟩:=qr hx1
  replace h:=h.pick [0,2,1,3,4,5,6] rfl
  refine qkV qb h rfl rfl rfl rfl rfl rfl rfl rfl rfl g1 hx1 rfl fun w16 p13 k10 S9 h=>X0 6 rfl (zs 3 h rfl fun w17 h=>X1 4 3 h rfl (zs 4 h rfl fun w18 h=>qa5 ?_))
  have hk1:=h
  obtain ⟨S10,h⟩:=h.gather [1,3,4,5] (qny (⟨name,kind,([(⟨(⟨#[100]⟩:ByteArray),1,W64 (1+i7),false⟩:qak),(⟨(⟨#[99,107]⟩:ByteArray),1,W64 (1+i10),true⟩:qak),(⟨(⟨#[113]⟩:ByteArray),2,0,false⟩:qak)]:List qak),x1,[],i1,i4⟩:qt) h (qu (S:=fun _=>False) rfl) (qu (S:=fun _=>False) rfl) (qC 2 h rfl) (qC 0 h rfl) qeO (qu (S:=fun _=>False) rfl) (qu (S:=fun _=>False) rfl) (by rfl) (by rfl) (by rfl) (by rfl) (by rfl) (by rfl)) rfl
  obtain rfl:=qc hF
  replace h:=h.pick [0,1,4] rfl
  exact qbx qb [GoT.v qt [.string name,.int .i64 kind,.slice p2 3 3,.slice p13 x1.length k10,.slice none 0 0,.int .i64 i1,.int .i64 i4]] ⟨⟨_,_,_,rfl,rfl,hk1.box 4 rfl,rfl⟩,trivial⟩ ⟨_,_,rfl,SH.unfr 1 1 h0 h rfl rfl⟩
 refine X0 5 rfl (zs 3 h rfl fun w19 h=>X1 4 3 h rfl (zs 4 h rfl fun w20 h=>qa5 ?_))
 have hk2:=h
 obtain ⟨S11,h⟩:=h.gather [1,3,4,5] (qny (⟨name,kind,([(⟨(⟨#[100]⟩:ByteArray),1,W64 (1+i7),false⟩:qak),(⟨(⟨#[99,107]⟩:ByteArray),1,W64 (1+i10),true⟩:qak),(⟨(⟨#[113]⟩:ByteArray),2,0,false⟩:qak)]:List qak),([r1,r2,r3]:List qav),[],i1,i4⟩:qt) h (qu (S:=fun _=>False) rfl) (qu (S:=fun _=>False) rfl) (qC 2 h rfl) (qC 0 h rfl) qeO (qu (S:=fun _=>False) rfl) (qu (S:=fun _=>False) rfl) (by rfl) (by rfl) (by rfl) (by rfl) (by rfl) (by rfl)) rfl
 obtain rfl:=qc hF
 replace h:=h.pick [0,1,4] rfl
 exact qbx qb [GoT.v qt [.string name,.int .i64 kind,.slice p2 3 3,.slice p9 3 3,.slice none 0 0,.int .i64 i1,.int .i64 i4]] ⟨⟨_,_,_,rfl,rfl,hk2.box 4 rfl,rfl⟩,trivial⟩ ⟨_,_,rfl,SH.unfr 1 1 h0 h rfl rfl⟩
def qip (n:Nat) (s:Tl01Source):Option (qq × Int × Int) :=
 (qeI n (⟨s.code,s.at_,s.seed⟩:Tl01Source) (⟨#[105,110,118]⟩:ByteArray) ([1,0]:List Int)).bind fun o=>match o with
  | (r1,i1,i2) =>
   (qeI n (⟨s.code,i1,i2⟩:Tl01Source) (⟨#[98,117,102]⟩:ByteArray) ([0,1]:List Int)).bind fun o=>match o with
    | (r2,i3,i4) =>
     (qeI n (⟨s.code,i3,i4⟩:Tl01Source) (⟨#[110,97,110,100]⟩:ByteArray) ([1,1,1,0]:List Int)).bind fun o=>match o with
      | (r3,i5,i6) =>
       (qeI n (⟨s.code,i5,i6⟩:Tl01Source) (⟨#[120,111,114]⟩:ByteArray) ([0,1,1,0]:List Int)).bind fun o=>match o with
        | (r4,i7,i8) =>
         (qeI n (⟨s.code,i7,i8⟩:Tl01Source) (⟨#[109,117,120]⟩:ByteArray) ([0,1,0,1,0,0,1,1]:List Int)).bind fun o=>match o with
          | (r5,i9,i10) =>
           (qd1 n (⟨s.code,i9,i10⟩:Tl01Source) (⟨#[102,108,111,112]⟩:ByteArray) 2 2).bind fun o=>match o with
            | (r6,i11,i12) =>
             (qd1 n (⟨s.code,i11,i12⟩:Tl01Source) (⟨#[102,108,111,112,110]⟩:ByteArray) 2 3).bind fun o=>match o with
              | (r7,i13,i14) =>
               (qd1 n (⟨s.code,i13,i14⟩:Tl01Source) (⟨#[108,97,116,99,104]⟩:ByteArray) 3 2).bind fun o=>match o with
                | (r8,i15,i16) =>
                 some ((⟨([r1,r2,r3,r4,r5,r6,r7,r8]:List qt)⟩:qq),i15,i16)
theorem qme {n:Nat} {w0 w:World} {F:List Ch} {s:Tl01Source} {bb1:Nat} {p1:Option Addr} {k1:Nat} (h0:SH w0 w (Ch.box bb1 (qan s p1 k1) 184::F)) (ha1:GoT.R w (Fr w0 F) s [.slice p1 s.code.length k1,.int .i64 s.at_,.int .i64 s.seed]) {r:(qq × Int × Int)} (hF:qip n s=some r):RetW Tryz.prog 179 [.pointer (some ⟨bb1,0,none⟩)] w (fun us w'=>∃ (S1:Nat→Prop) (cs1:List Value),us=[GoT.v qq cs1]∧SH w0 w' (Ch.own S1 (r.1:qq) cs1::Ch.box bb1 [.slice p1 s.code.length k1,.int .i64 r.2.1,.int .i64 r.2.2] 184::F)):=by
 have h:=SH.frm1 h0 ha1
 refine qbr Tryz.func179 rfl (m:=45) rfl rfl (zSR (qB qb h rfl rfl rfl fun w1 bb2 h=>zNSR (r_v (qat qb [] [] rfl rfl rfl rfl rfl rfl rfl rfl) rfl (qB qb h rfl rfl rfl fun w2 bb3 h=>zs 0 h rfl fun w3 h=>X0 4 rfl (qm qb [.const (.int .i64 (1)),.const (.int .i64 (0))] _ ([1,0]:List Int) h rfl rfl rfl rfl rfl rfl rfl rfl rfl ⟨rfl,rfl,trivial⟩ rfl fun w4 p2 S2 h=>?_)))))
 replace h:=h.pick [3,0,1,2,4] rfl
 obtain ⟨o1,hr1,hF⟩:=qe hF
 obtain ⟨r1,i1,i2⟩:=o1
 refine qaV (cB 209 rfl) (qe7 (a_0:=(⟨s.code,s.at_,s.seed⟩:Tl01Source)) (a_1:=(⟨#[105,110,118]⟩:ByteArray)) (a_2:=([1,0]:List Int)) h (show GoT.R _ _ ((⟨s.code,s.at_,s.seed⟩:Tl01Source):Tl01Source) _ from ⟨[.slice p1 s.code.length k1],[.int .i64 s.at_,.int .i64 s.seed],rfl,⟨_,_,rfl,(qf (h.frG 4 0 2 rfl rfl rfl)).1⟩,⟨[.int .i64 s.at_],[.int .i64 s.seed],rfl,rfl,rfl⟩⟩) hr1) rfl rfl rfl rfl ?_
 rintro w5 us1 ⟨S3,cs2,rfl,h⟩
 obtain ⟨p3,k2,p4,k3,p5,k4,rfl,-,-,-⟩:=qS (h.own 0 rfl)
 replace h:SH _ _ [Ch.own S3 (r1:qt) (qy r1 p3 p4 p5 k2 k3 k4),Ch.box bb1 [.slice p1 s.code.length k1,.int .i64 i1,.int .i64 i2] 184,Ch.box bb3 [.slice none 0 0] 26,Ch.box bb2 [.slice none 0 0] 26,Ch.grp (old w0) (FS F) [fct (s:Tl01Source) [.slice p1 s.code.length k1,.int .i64 s.at_,.int .i64 s.seed],same w0 w F]]:=h
 refine qB qb h rfl rfl rfl fun w6 bb4 h=>zs 0 h rfl fun w7 h=>X0 4 rfl (qm qb [.const (.int .i64 (0)),.const (.int .i64 (1))] _ ([0,1]:List Int) h rfl rfl rfl rfl rfl rfl rfl rfl rfl ⟨rfl,rfl,trivial⟩ rfl fun w8 p6 S4 h=>?_)
 replace h:=h.pick [3,0,1,2,4,5,6] rfl
 obtain ⟨o2,hr2,hF⟩:=qe hF
 obtain ⟨r2,i3,i4⟩:=o2
 refine qaV (cB 209 rfl) (qe7 (a_0:=(⟨s.code,i1,i2⟩:Tl01Source)) (a_1:=(⟨#[98,117,102]⟩:ByteArray)) (a_2:=([0,1]:List Int)) h (show GoT.R _ _ ((⟨s.code,i1,i2⟩:Tl01Source):Tl01Source) _ from ⟨[.slice p1 s.code.length k1],[.int .i64 i1,.int .i64 i2],rfl,⟨_,_,rfl,(qf (h.frG 6 0 2 rfl rfl rfl)).1⟩,⟨[.int .i64 i1],[.int .i64 i2],rfl,rfl,rfl⟩⟩) hr2) rfl rfl rfl rfl ?_
 rintro w9 us2 ⟨S5,cs3,rfl,h⟩
 obtain ⟨p7,k5,p8,k6,p9,k7,rfl,-,-,-⟩:=qS (h.own 0 rfl)
 replace h:SH _ _ [Ch.own S5 (r2:qt) (qy r2 p7 p8 p9 k5 k6 k7),Ch.box bb1 [.slice p1 s.code.length k1,.int .i64 i3,.int .i64 i4] 184,Ch.box bb4 (qy r1 p3 p4 p5 k2 k3 k4) 201,Ch.own S3 (r1:qt) (qy r1 p3 p4 p5 k2 k3 k4),Ch.box bb3 [.slice none 0 0] 26,Ch.box bb2 [.slice none 0 0] 26,Ch.grp (old w0) (FS F) [fct (s:Tl01Source) [.slice p1 s.code.length k1,.int .i64 s.at_,.int .i64 s.seed],same w0 w F]]:=h
 refine qB qb h rfl rfl rfl fun w10 bb5 h=>zs 0 h rfl fun w11 h=>X0 4 rfl (qm qb [.const (.int .i64 (1)),.const (.int .i64 (1)),.const (.int .i64 (1)),.const (.int .i64 (0))] _ ([1,1,1,0]:List Int) h rfl rfl rfl rfl rfl rfl rfl rfl rfl ⟨rfl,rfl,rfl,rfl,trivial⟩ rfl fun w12 p10 S6 h=>?_)
 replace h:=h.pick [3,0,1,2,4,5,6,7,8] rfl
 obtain ⟨o3,hr3,hF⟩:=qe hF
 obtain ⟨r3,i5,i6⟩:=o3
 refine qaV (cB 209 rfl) (qe7 (a_0:=(⟨s.code,i3,i4⟩:Tl01Source)) (a_1:=(⟨#[110,97,110,100]⟩:ByteArray)) (a_2:=([1,1,1,0]:List Int)) h (show GoT.R _ _ ((⟨s.code,i3,i4⟩:Tl01Source):Tl01Source) _ from ⟨[.slice p1 s.code.length k1],[.int .i64 i3,.int .i64 i4],rfl,⟨_,_,rfl,(qf (h.frG 8 0 2 rfl rfl rfl)).1⟩,⟨[.int .i64 i3],[.int .i64 i4],rfl,rfl,rfl⟩⟩) hr3) rfl rfl rfl rfl ?_
 rintro w13 us3 ⟨S7,cs4,rfl,h⟩
 obtain ⟨p11,k8,p12,k9,p13,k10,rfl,-,-,-⟩:=qS (h.own 0 rfl)
 replace h:SH _ _ [Ch.own S7 (r3:qt) (qy r3 p11 p12 p13 k8 k9 k10),Ch.box bb1 [.slice p1 s.code.length k1,.int .i64 i5,.int .i64 i6] 184,Ch.box bb5 (qy r2 p7 p8 p9 k5 k6 k7) 201,Ch.own S5 (r2:qt) (qy r2 p7 p8 p9 k5 k6 k7),Ch.box bb4 (qy r1 p3 p4 p5 k2 k3 k4) 201,Ch.own S3 (r1:qt) (qy r1 p3 p4 p5 k2 k3 k4),Ch.box bb3 [.slice none 0 0] 26,Ch.box bb2 [.slice none 0 0] 26,Ch.grp (old w0) (FS F) [fct (s:Tl01Source) [.slice p1 s.code.length k1,.int .i64 s.at_,.int .i64 s.seed],same w0 w F]]:=h
 refine qB qb h rfl rfl rfl fun w14 bb6 h=>zs 0 h rfl fun w15 h=>X0 4 rfl (qm qb [.const (.int .i64 (0)),.const (.int .i64 (1)),.const (.int .i64 (1)),.const (.int .i64 (0))] _ ([0,1,1,0]:List Int) h rfl rfl rfl rfl rfl rfl rfl rfl rfl ⟨rfl,rfl,rfl,rfl,trivial⟩ rfl fun w16 p14 S8 h=>?_)
 replace h:=h.pick [3,0,1,2,4,5,6,7,8,9,10] rfl
 obtain ⟨o4,hr4,hF⟩:=qe hF
 obtain ⟨r4,i7,i8⟩:=o4
 refine qaV (cB 209 rfl) (qe7 (a_0:=(⟨s.code,i5,i6⟩:Tl01Source)) (a_1:=(⟨#[120,111,114]⟩:ByteArray)) (a_2:=([0,1,1,0]:List Int)) h (show GoT.R _ _ ((⟨s.code,i5,i6⟩:Tl01Source):Tl01Source) _ from ⟨[.slice p1 s.code.length k1],[.int .i64 i5,.int .i64 i6],rfl,⟨_,_,rfl,(qf (h.frG 10 0 2 rfl rfl rfl)).1⟩,⟨[.int .i64 i5],[.int .i64 i6],rfl,rfl,rfl⟩⟩) hr4) rfl rfl rfl rfl ?_
 rintro w17 us4 ⟨S9,cs5,rfl,h⟩
 obtain ⟨p15,k11,p16,k12,p17,k13,rfl,-,-,-⟩:=qS (h.own 0 rfl)
 replace h:SH _ _ [Ch.own S9 (r4:qt) (qy r4 p15 p16 p17 k11 k12 k13),Ch.box bb1 [.slice p1 s.code.length k1,.int .i64 i7,.int .i64 i8] 184,Ch.box bb6 (qy r3 p11 p12 p13 k8 k9 k10) 201,Ch.own S7 (r3:qt) (qy r3 p11 p12 p13 k8 k9 k10),Ch.box bb5 (qy r2 p7 p8 p9 k5 k6 k7) 201,Ch.own S5 (r2:qt) (qy r2 p7 p8 p9 k5 k6 k7),Ch.box bb4 (qy r1 p3 p4 p5 k2 k3 k4) 201,Ch.own S3 (r1:qt) (qy r1 p3 p4 p5 k2 k3 k4),Ch.box bb3 [.slice none 0 0] 26,Ch.box bb2 [.slice none 0 0] 26,Ch.grp (old w0) (FS F) [fct (s:Tl01Source) [.slice p1 s.code.length k1,.int .i64 s.at_,.int .i64 s.seed],same w0 w F]]:=h
 refine qB qb h rfl rfl rfl fun w18 bb7 h=>zs 0 h rfl fun w19 h=>X0 4 rfl (qm qb [.const (.int .i64 (0)),.const (.int .i64 (1)),.const (.int .i64 (0)),.const (.int .i64 (1)),.const (.int .i64 (0)),.const (.int .i64 (0)),.const (.int .i64 (1)),.const (.int .i64 (1))] _ ([0,1,0,1,0,0,1,1]:List Int) h rfl rfl rfl rfl rfl rfl rfl rfl rfl ⟨rfl,rfl,rfl,rfl,rfl,rfl,rfl,rfl,trivial⟩ rfl fun w20 p18 S10 h=>?_)
 replace h:=h.pick [3,0,1,2,4,5,6,7,8,9,10,11,12] rfl
 obtain ⟨o5,hr5,hF⟩:=qe hF
 obtain ⟨r5,i9,i10⟩:=o5
 refine qaV (cB 209 rfl) (qe7 (a_0:=(⟨s.code,i7,i8⟩:Tl01Source)) (a_1:=(⟨#[109,117,120]⟩:ByteArray)) (a_2:=([0,1,0,1,0,0,1,1]:List Int)) h (show GoT.R _ _ ((⟨s.code,i7,i8⟩:Tl01Source):Tl01Source) _ from ⟨[.slice p1 s.code.length k1],[.int .i64 i7,.int .i64 i8],rfl,⟨_,_,rfl,(qf (h.frG 12 0 2 rfl rfl rfl)).1⟩,⟨[.int .i64 i7],[.int .i64 i8],rfl,rfl,rfl⟩⟩) hr5) rfl rfl rfl rfl ?_
 rintro w21 us5 ⟨S11,cs6,rfl,h⟩
 obtain ⟨p19,k14,p20,k15,p21,k16,rfl,-,-,-⟩:=qS (h.own 0 rfl)
 replace h:SH _ _ [Ch.own S11 (r5:qt) (qy r5 p19 p20 p21 k14 k15 k16),Ch.box bb1 [.slice p1 s.code.length k1,.int .i64 i9,.int .i64 i10] 184,Ch.box bb7 (qy r4 p15 p16 p17 k11 k12 k13) 201,Ch.own S9 (r4:qt) (qy r4 p15 p16 p17 k11 k12 k13),Ch.box bb6 (qy r3 p11 p12 p13 k8 k9 k10) 201,Ch.own S7 (r3:qt) (qy r3 p11 p12 p13 k8 k9 k10),Ch.box bb5 (qy r2 p7 p8 p9 k5 k6 k7) 201,Ch.own S5 (r2:qt) (qy r2 p7 p8 p9 k5 k6 k7),Ch.box bb4 (qy r1 p3 p4 p5 k2 k3 k4) 201,Ch.own S3 (r1:qt) (qy r1 p3 p4 p5 k2 k3 k4),Ch.box bb3 [.slice none 0 0] 26,Ch.box bb2 [.slice none 0 0] 26,Ch.grp (old w0) (FS F) [fct (s:Tl01Source) [.slice p1 s.code.length k1,.int .i64 s.at_,.int .i64 s.seed],same w0 w F]]:=h
 refine qB qb h rfl rfl rfl fun w22 bb8 h=>zs 0 h rfl fun w23 h=>X0 4 rfl ?_
 replace h:=h.pick [2,0,1,3,4,5,6,7,8,9,10,11,12,13] rfl
 obtain ⟨o6,hr6,hF⟩:=qe hF
 obtain ⟨r6,i11,i12⟩:=o6
 refine qaV (cB 210 rfl) (qfS (s:=(⟨s.code,i9,i10⟩:Tl01Source)) (name:=(⟨#[102,108,111,112]⟩:ByteArray)) (kind:=2) (edge:=2) h (show GoT.R _ _ ((⟨s.code,i9,i10⟩:Tl01Source):Tl01Source) _ from ⟨[.slice p1 s.code.length k1],[.int .i64 i9,.int .i64 i10],rfl,⟨_,_,rfl,(qf (h.frG 13 0 1 rfl rfl rfl)).1⟩,⟨[.int .i64 i9],[.int .i64 i10],rfl,rfl,rfl⟩⟩) hr6) rfl rfl rfl rfl ?_
 rintro w24 us6 ⟨S12,cs7,rfl,h⟩
 obtain ⟨p22,k17,p23,k18,p24,k19,rfl,-,-,-⟩:=qS (h.own 0 rfl)
 replace h:SH _ _ [Ch.own S12 (r6:qt) (qy r6 p22 p23 p24 k17 k18 k19),Ch.box bb1 [.slice p1 s.code.length k1,.int .i64 i11,.int .i64 i12] 184,Ch.box bb8 (qy r5 p19 p20 p21 k14 k15 k16) 201,Ch.own S11 (r5:qt) (qy r5 p19 p20 p21 k14 k15 k16),Ch.box bb7 (qy r4 p15 p16 p17 k11 k12 k13) 201,Ch.own S9 (r4:qt) (qy r4 p15 p16 p17 k11 k12 k13),Ch.box bb6 (qy r3 p11 p12 p13 k8 k9 k10) 201,Ch.own S7 (r3:qt) (qy r3 p11 p12 p13 k8 k9 k10),Ch.box bb5 (qy r2 p7 p8 p9 k5 k6 k7) 201,Ch.own S5 (r2:qt) (qy r2 p7 p8 p9 k5 k6 k7),Ch.box bb4 (qy r1 p3 p4 p5 k2 k3 k4) 201,Ch.own S3 (r1:qt) (qy r1 p3 p4 p5 k2 k3 k4),Ch.box bb3 [.slice none 0 0] 26,Ch.box bb2 [.slice none 0 0] 26,Ch.grp (old w0) (FS F) [fct (s:Tl01Source) [.slice p1 s.code.length k1,.int .i64 s.at_,.int .i64 s.seed],same w0 w F]]:=h
 refine qB qb h rfl rfl rfl fun w25 bb9 h=>zs 0 h rfl fun w26 h=>X0 4 rfl ?_
 replace h:=h.pick [2,0,1,3,4,5,6,7,8,9,10,11,12,13,14,15] rfl
 obtain ⟨o7,hr7,hF⟩:=qe hF
 obtain ⟨r7,i13,i14⟩:=o7
 refine qaV (cB 210 rfl) (qfS (s:=(⟨s.code,i11,i12⟩:Tl01Source)) (name:=(⟨#[102,108,111,112,110]⟩:ByteArray)) (kind:=2) (edge:=3) h (show GoT.R _ _ ((⟨s.code,i11,i12⟩:Tl01Source):Tl01Source) _ from ⟨[.slice p1 s.code.length k1],[.int .i64 i11,.int .i64 i12],rfl,⟨_,_,rfl,(qf (h.frG 15 0 1 rfl rfl rfl)).1⟩,⟨[.int .i64 i11],[.int .i64 i12],rfl,rfl,rfl⟩⟩) hr7) rfl rfl rfl rfl ?_
 rintro w27 us7 ⟨S13,cs8,rfl,h⟩
 obtain ⟨p25,k20,p26,k21,p27,k22,rfl,-,-,-⟩:=qS (h.own 0 rfl)
 replace h:SH _ _ [Ch.own S13 (r7:qt) (qy r7 p25 p26 p27 k20 k21 k22),Ch.box bb1 [.slice p1 s.code.length k1,.int .i64 i13,.int .i64 i14] 184,Ch.box bb9 (qy r6 p22 p23 p24 k17 k18 k19) 201,Ch.own S12 (r6:qt) (qy r6 p22 p23 p24 k17 k18 k19),Ch.box bb8 (qy r5 p19 p20 p21 k14 k15 k16) 201,Ch.own S11 (r5:qt) (qy r5 p19 p20 p21 k14 k15 k16),Ch.box bb7 (qy r4 p15 p16 p17 k11 k12 k13) 201,Ch.own S9 (r4:qt) (qy r4 p15 p16 p17 k11 k12 k13),Ch.box bb6 (qy r3 p11 p12 p13 k8 k9 k10) 201,Ch.own S7 (r3:qt) (qy r3 p11 p12 p13 k8 k9 k10),Ch.box bb5 (qy r2 p7 p8 p9 k5 k6 k7) 201,Ch.own S5 (r2:qt) (qy r2 p7 p8 p9 k5 k6 k7),Ch.box bb4 (qy r1 p3 p4 p5 k2 k3 k4) 201,Ch.own S3 (r1:qt) (qy r1 p3 p4 p5 k2 k3 k4),Ch.box bb3 [.slice none 0 0] 26,Ch.box bb2 [.slice none 0 0] 26,Ch.grp (old w0) (FS F) [fct (s:Tl01Source) [.slice p1 s.code.length k1,.int .i64 s.at_,.int .i64 s.seed],same w0 w F]]:=h
 refine qB qb h rfl rfl rfl fun w28 bb10 h=>zs 0 h rfl fun w29 h=>X0 4 rfl ?_
 replace h:=h.pick [2,0,1,3,4,5,6,7,8,9,10,11,12,13,14,15,16,17] rfl
 obtain ⟨o8,hr8,hF⟩:=qe hF
 obtain ⟨r8,i15,i16⟩:=o8
 refine qaV (cB 210 rfl) (qfS (s:=(⟨s.code,i13,i14⟩:Tl01Source)) (name:=(⟨#[108,97,116,99,104]⟩:ByteArray)) (kind:=3) (edge:=2) h (show GoT.R _ _ ((⟨s.code,i13,i14⟩:Tl01Source):Tl01Source) _ from ⟨[.slice p1 s.code.length k1],[.int .i64 i13,.int .i64 i14],rfl,⟨_,_,rfl,(qf (h.frG 17 0 1 rfl rfl rfl)).1⟩,⟨[.int .i64 i13],[.int .i64 i14],rfl,rfl,rfl⟩⟩) hr8) rfl rfl rfl rfl ?_
 rintro w30 us8 ⟨S14,cs9,rfl,h⟩
 obtain ⟨p28,k23,p29,k24,p30,k25,rfl,-,-,-⟩:=qS (h.own 0 rfl)
 replace h:SH _ _ [Ch.own S14 (r8:qt) (qy r8 p28 p29 p30 k23 k24 k25),Ch.box bb1 [.slice p1 s.code.length k1,.int .i64 i15,.int .i64 i16] 184,Ch.box bb10 (qy r7 p25 p26 p27 k20 k21 k22) 201,Ch.own S13 (r7:qt) (qy r7 p25 p26 p27 k20 k21 k22),Ch.box bb9 (qy r6 p22 p23 p24 k17 k18 k19) 201,Ch.own S12 (r6:qt) (qy r6 p22 p23 p24 k17 k18 k19),Ch.box bb8 (qy r5 p19 p20 p21 k14 k15 k16) 201,Ch.own S11 (r5:qt) (qy r5 p19 p20 p21 k14 k15 k16),Ch.box bb7 (qy r4 p15 p16 p17 k11 k12 k13) 201,Ch.own S9 (r4:qt) (qy r4 p15 p16 p17 k11 k12 k13),Ch.box bb6 (qy r3 p11 p12 p13 k8 k9 k10) 201,Ch.own S7 (r3:qt) (qy r3 p11 p12 p13 k8 k9 k10),Ch.box bb5 (qy r2 p7 p8 p9 k5 k6 k7) 201,Ch.own S5 (r2:qt) (qy r2 p7 p8 p9 k5 k6 k7),Ch.box bb4 (qy r1 p3 p4 p5 k2 k3 k4) 201,Ch.own S3 (r1:qt) (qy r1 p3 p4 p5 k2 k3 k4),Ch.box bb3 [.slice none 0 0] 26,Ch.box bb2 [.slice none 0 0] 26,Ch.grp (old w0) (FS F) [fct (s:Tl01Source) [.slice p1 s.code.length k1,.int .i64 s.at_,.int .i64 s.seed],same w0 w F]]:=h
 refine qB qb h rfl rfl rfl fun w31 bb11 h=>zs 0 h rfl fun w32 h=>X5 8 15 13 11 9 7 h rfl (X3 3 5 3 0 h rfl (qdV qb [.tmp 34,.tmp 35,.tmp 36,.tmp 37,.tmp 38,.tmp 39,.tmp 40,.tmp 41] _ ([r1,r2,r3,r4,r5,r6,r7,r8]:List qt) [0,2,3,5,7,9,11,13,15,17,18,19] h rfl rfl rfl rfl rfl rfl rfl rfl rfl (qcn (qC 16 h rfl) (qcn (qC 14 h rfl) (qcn (qC 12 h rfl) (qcn (qC 10 h rfl) (qcn (qC 8 h rfl) (qcn (qC 6 h rfl) (qcn (qC 4 h rfl) (qcn (qC 1 h rfl) qgr rfl) rfl) rfl) rfl) rfl) rfl) rfl) rfl) rfl rfl fun w33 p31 S15 h=>zp1 rfl (zs 10 h rfl fun w34 h=>X1 4 10 h rfl (zs 11 h rfl fun w35 h=>qa5 ?_))))
 have hk1:=h
 obtain ⟨S16,h⟩:=h.gather [1,2,3,4,5,6,7,8,9,10,11,12] (qpj (⟨([r1,r2,r3,r4,r5,r6,r7,r8]:List qt)⟩:qq) h (qC 0 h rfl) ) rfl
 obtain rfl:=qc hF
 replace h:=h.pick [0,2,12] rfl
 exact qbx qb [GoT.v qq [.slice p31 8 8]] ⟨⟨_,_,_,rfl,rfl,hk1.box 11 rfl,rfl⟩,trivial⟩ ⟨_,_,rfl,SH.unfr 1 1 h0 h rfl rfl⟩
def qbl:Nat→Int→Option ByteArray
 | 0,_=>none
 | n+1,a_n =>
  bif decide (a_n<0) then
   ((qbl n) (W64 (0-a_n))).bind fun r1 =>
   (catB (⟨#[45]⟩:ByteArray) r1).bind fun z1 =>
   some z1
  else
   bif decide (a_n<10) then some (strOf ([(⟨IntKind.wrap .u8 (W64 (48+a_n))⟩:IntK .u8)]:List (IntK .u8))) else
   ((qbl n) (W64 (a_n.tdiv 10))).bind fun r2 =>
   (catB r2 (strOf ([(⟨IntKind.wrap .u8 (W64 (48+(a_n.tmod 10)))⟩:IntK .u8)]:List (IntK .u8)))).bind fun z2 =>
   some z2
theorem qiN {n:Nat}:∀ {w:World} {a_n:Int}  {r:ByteArray} (_:qbl n a_n=some r),RetV Tryz.prog 211 [.int .i64 a_n] w r:=by
 induction n with
 | zero=>intro w a_n r hF;rw [qbl] at hF;cases hF
 | succ n ih =>
  intro w a_n r hF
  obtain ⟨rc,hrc⟩:∃ rc,rc=qbl n:=⟨_,rfl⟩
  rw [←hrc] at ih
  refine zV 26 Tryz.func211 rfl fun h=>?_
  unfold qbl at hF
  rw [←hrc] at hF
  refine X0 10 rfl (qk rfl hF ?_ ?_)<;>intro hF
  ·refine X0 4 rfl (zcS h hF ih rfl fun r1 w1 h hF=>?_)
   obtain ⟨z1,hx1,hF⟩:=qe hF
   obtain ⟨g1,hx1⟩:=qit hx1
   refine r_v (qon g1 rfl rfl) rfl ?_
   rw [hx1]
   refine X0 2 rfl ?_
   obtain rfl:=qc hF
   exact qar qb (ρ:=ByteArray) [_] h ⟨rfl,trivial⟩ (qou _ _)
  ·refine X0 7 rfl (qk rfl hF ?_ ?_)<;>intro hF
   ·refine X0 5 rfl (qm qb [.tmp 13] _ ([(⟨IntKind.wrap .u8 (W64 (48+a_n))⟩:IntK .u8)]:List (IntK .u8)) h rfl rfl rfl rfl rfl rfl rfl rfl rfl ⟨rfl,trivial⟩ rfl fun w2 p1 S1 h=>r_v (qmK qb (h.sl 0 rfl).1 (h.sl 0 rfl).2 rfl ⟨rfl,rfl⟩ ⟨rfl,rfl⟩ rfl rfl) rfl (X0 2 rfl ?_))
    obtain rfl:=qc hF
    exact qar qb (ρ:=ByteArray) [_] h ⟨rfl,trivial⟩ (qou _ _)
   ·refine zKS ?_
    obtain ⟨r2,hr2,hF⟩:=qe hF
    obtain ⟨z2,hx2,hF⟩:=qe hF
    refine qa8 (fun e w'=>e=[(2,.string z2)]∧SH w w' []) ?_ ?_
    ·refine rA [] [] h rfl fun w5 h=>M0 123 [0,1,3,4,5,6] (h.pick [] rfl) rfl (At 2 7 127 251 rfl ?_ ?_)
     ·refine qmT r2 h (cB 211 rfl) (ih hr2) rfl rfl rfl rfl fun w11 h=>Ag (h.pick [] rfl) (Ao 7 255 rfl (qm qb [.tmp 22] _ ([(⟨IntKind.wrap .u8 (W64 (48+(a_n.tmod 10)))⟩:IntK .u8)]:List (IntK .u8)) h rfl rfl rfl rfl rfl rfl rfl rfl rfl ⟨rfl,trivial⟩ rfl fun w12 p5 S5 h=>Ag (h.pick [] rfl) (Ao 8 511 rfl (r_v (qmK qb (h.sl 0 rfl).1 (h.sl 0 rfl).2 rfl ⟨rfl,rfl⟩ ⟨rfl,rfl⟩ rfl rfl) rfl (Ag (h.pick [] rfl) ?_)))))
      obtain ⟨g6,hx2⟩:=qit hx2
      refine Aw 9 1023 (fun w' hw=>qon g6 rfl rfl) (h.pick [] rfl) rfl ?_
      rw [hx2]
      refine M0 2047 [10] (h.pick [] rfl) rfl (Ad ?_)
      replace h:=h.pick [] rfl
      exact rG ⟨rfl,h⟩ rfl
     ·refine qm qb [.tmp 22] _ ([(⟨IntKind.wrap .u8 (W64 (48+(a_n.tmod 10)))⟩:IntK .u8)]:List (IntK .u8)) h rfl rfl rfl rfl rfl rfl rfl rfl rfl ⟨rfl,trivial⟩ rfl fun w13 p6 S6 h=>Ag (h.pick [] rfl) (At 2 8 255 507 rfl ?_ ?_)
      ·refine qmT r2 h (cB 211 rfl) (ih hr2) rfl rfl rfl rfl fun w14 h=>Ag (h.pick [] rfl) (Ao 8 511 rfl (r_v (qmK qb (h.sl 0 rfl).1 (h.sl 0 rfl).2 rfl ⟨rfl,rfl⟩ ⟨rfl,rfl⟩ rfl rfl) rfl (Ag (h.pick [] rfl) ?_)))
       obtain ⟨g7,hx2⟩:=qit hx2
       refine Aw 9 1023 (fun w' hw=>qon g7 rfl rfl) (h.pick [] rfl) rfl ?_
       rw [hx2]
       refine M0 2047 [10] (h.pick [] rfl) rfl (Ad ?_)
       replace h:=h.pick [] rfl
       exact rG ⟨rfl,h⟩ rfl
      ·refine r_v (qmK qb (h.sl 0 rfl).1 (h.sl 0 rfl).2 rfl ⟨rfl,rfl⟩ ⟨rfl,rfl⟩ rfl rfl) rfl (Ag (h.pick [] rfl) (Ao 2 511 rfl (qmT r2 h (cB 211 rfl) (ih hr2) rfl rfl rfl rfl fun w15 h=>Ag (h.pick [] rfl) ?_)))
       obtain ⟨g8,hx2⟩:=qit hx2
       refine Aw 9 1023 (fun w' hw=>qon g8 rfl rfl) (h.pick [] rfl) rfl ?_
       rw [hx2]
       refine M0 2047 [10] (h.pick [] rfl) rfl (Ad ?_)
       replace h:=h.pick [] rfl
       exact rG ⟨rfl,h⟩ rfl
    ·rintro e1 w16 ⟨rfl,h⟩
     obtain rfl:=qc hF
     exact qar qb (ρ:=ByteArray) [_] h ⟨rfl,trivial⟩ (qou _ _)
def qdr (a_0:Tl01Source) (x2:(List ByteArray)) (y1:Int):Nat→(List Int)→Int→Int→Int→Option ((List Int) × Int × Int × Int)
 | 0,_,_,_,_=>none
 | n+1,x4,i10,i11,i12 =>
  (idx ([2,2,3,3,4,3,3,3]:List Int) y1).bind fun y2 =>
  bif decide (i12<(W64 (y2-1))) then
   (qn n (⟨a_0.code,i10,i11⟩:Tl01Source) (W64 ((x2.length:Int)-1))).bind fun o=>match o with
    | (i13,i14,i15) =>
     (qn n (⟨a_0.code,i14,i15⟩:Tl01Source) 3).bind fun o=>match o with
      | (i16,i17,i18) =>
       (
        bif (i16==0) then some (W64 ((x2.length:Int)-1)) else
        some (W64 (1+i13))).bind fun i19 =>
       (
        bif decide (y1 ≥ 5) then some (i12==1) else
        some false).bind fun b3 =>
       bif b3 then
        (appS ([]:List Int) x4).bind fun x5 =>
        (appS x5 ([0]:List Int)).bind fun x6 =>
        qdr a_0 x2 y1 n x6 i17 i18 (W64 (i12+1))
       else
        (appS ([]:List Int) x4).bind fun x7 =>
        (appS x7 ([i19]:List Int)).bind fun x8 =>
        qdr a_0 x2 y1 n x8 i17 i18 (W64 (i12+1))
  else
   some (x4,i10,i11,i12)
def qdq (a_0:Tl01Source) (a_2:Bool) (x2:(List ByteArray)) (x3:(List qz)):Nat→(List qz)→Int→Int→Int→Option ((List qz) × Int × Int × Int)
 | 0,_,_,_,_=>none
 | n+1,x13,i20,i21,i22 =>
  bif decide (i22<(x3.length:Int)) then
   (
    (qn n (⟨a_0.code,i20,i21⟩:Tl01Source) 4).bind fun o=>match o with
     | (i28,i29,i30) =>
      bif (i28==0) then
       (idx x13 i22).bind fun y5 =>
       bif (y5.Az==5) then some (i29,i30,true) else
       (idx x13 i22).bind fun y6 =>
       bif (y6.Az==6) then some (i29,i30,true) else
       some (i29,i30,a_2)
      else
       some (i29,i30,false)).bind fun o=>match o with
    | (i23,i24,b4) =>
     bif b4 then
      (idx x13 i22).bind fun y3 =>
      (qn n (⟨a_0.code,i23,i24⟩:Tl01Source) (W64 ((x2.length:Int)-1))).bind fun o=>match o with
       | (i25,i26,i27) =>
        (idx y3.Ai 0).bind fun _ =>
        qdq a_0 a_2 x2 x3 n (setS x13 i22 (⟨y3.Au,y3.Az,(setS y3.Ai 0 (W64 (1+i25)))⟩:qz)) i26 i27 (W64 (i22+1))
     else
      qdq a_0 a_2 x2 x3 n x13 i23 i24 (W64 (i22+1))
  else
   some (x13,i20,i21,i22)
def qej (a_0:Tl01Source):Nat→(List ByteArray)→(List qz)→Int→Int→Int→Option ((List ByteArray) × (List qz) × Int × Int × Int)
 | 0,_,_,_,_,_=>none
 | n+1,x2,x3,i4,i5,i6 =>
  bif decide (i6 > 0) then
   (qn n (⟨a_0.code,i4,i5⟩:Tl01Source) 12).bind fun o=>match o with
    | (i7,i8,i9) =>
     (idx ([0,1,2,2,3,4,5,5,5,6,7,1]:List Int) i7).bind fun y1 =>
     (qbl n (x3.length:Int)).bind fun r1 =>
     (catB (⟨#[117]⟩:ByteArray) r1).bind fun z1 =>
     (qdr a_0 x2 y1 n ([]:List Int) i8 i9 0).bind fun o=>match o with
     | (x4,i10,i11,_) =>
      (appS ([]:List Int) x4).bind fun x9 =>
      (appS x9 ([(x2.length:Int)]:List Int)).bind fun x10 =>
      (qbl n (x2.length:Int)).bind fun r2 =>
      (catB (⟨#[110]⟩:ByteArray) r2).bind fun z2 =>
      (appS x2 ([z2]:List ByteArray)).bind fun x11 =>
      (appS x3 ([(⟨z1,y1,x10⟩:qz)]:List qz)).bind fun x12 =>
      qej a_0 n x11 x12 i10 i11 (W64 (i6-1))
  else
   some (x2,x3,i4,i5,i6)
def qid (n:Nat) (a_0:Tl01Source) (a_1:Int) (a_2:Bool):Option (qg × Int × Int) :=
 (appS ([]:List ByteArray) ([(⟨#[110,99,107]⟩:ByteArray),(⟨#[110,97]⟩:ByteArray),(⟨#[110,98]⟩:ByteArray)]:List ByteArray)).bind fun x1 =>
 (qn n (⟨a_0.code,a_0.at_,a_0.seed⟩:Tl01Source) (W64 (a_1-1))).bind fun o=>match o with
  | (i1,i2,i3) =>
   (qej a_0 n x1 ([]:List qz) i2 i3 (W64 (2+i1))).bind fun o=>match o with
   | (x2,x3,i4,i5,_) =>
    (qdq a_0 a_2 x2 x3 n x3 i4 i5 0).bind fun o=>match o with
    | (x13,i20,i21,_) =>
     (appS ([]:List qam) ([(⟨(⟨#[99,107]⟩:ByteArray),1,0⟩:qam),(⟨(⟨#[97]⟩:ByteArray),1,1⟩:qam),(⟨(⟨#[98]⟩:ByteArray),1,2⟩:qam)]:List qam)).bind fun x14 =>
     (appS x14 ([(⟨(⟨#[121]⟩:ByteArray),2,W64 ((x2.length:Int)-1)⟩:qam)]:List qam)).bind fun x15 =>
     (qn n (⟨a_0.code,i20,i21⟩:Tl01Source) 2).bind fun o=>match o with
      | (i31,i32,i33) =>
       bif (i31==0) then
        (qn n (⟨a_0.code,i32,i33⟩:Tl01Source) (W64 ((x2.length:Int)-1))).bind fun o=>match o with
         | (i34,i35,i36) =>
          (appS x15 ([(⟨(⟨#[122]⟩:ByteArray),2,W64 (1+i34)⟩:qam)]:List qam)).bind fun x16 =>
          some ((⟨x13,x2,x16⟩:qg),i35,i36)
       else
        some ((⟨x13,x2,x15⟩:qg),i32,i33)
theorem qlW {n:Nat} {w0 w:World} {F:List Ch} {a_0:Tl01Source} {bb1:Nat} {p1:Option Addr} {k1:Nat} {a_1:Int} {a_2:Bool} (h0:SH w0 w (Ch.box bb1 (qan a_0 p1 k1) 184::F)) (ha1:GoT.R w (Fr w0 F) a_0 [.slice p1 a_0.code.length k1,.int .i64 a_0.at_,.int .i64 a_0.seed]) {r:(qg × Int × Int)} (hF:qid n a_0 a_1 a_2=some r):RetW Tryz.prog 180 [.pointer (some ⟨bb1,0,none⟩),.int .i64 a_1,.bool a_2] w (fun us w'=>∃ (S1:Nat→Prop) (cs1:List Value),us=[GoT.v qg cs1]∧SH w0 w' (Ch.own S1 (r.1:qg) cs1::Ch.box bb1 [.slice p1 a_0.code.length k1,.int .i64 r.2.1,.int .i64 r.2.2] 184::F)):=by
 have h:=SH.frm1 h0 ha1
 refine qbr Tryz.func180 rfl (m:=174) rfl rfl (zSR (qB qb h rfl rfl rfl fun w1 bb2 h=>zNSR (qm qb [.const (.string (⟨#[110,99,107]⟩:ByteArray)),.const (.string (⟨#[110,97]⟩:ByteArray)),.const (.string (⟨#[110,98]⟩:ByteArray))] _ ([(⟨#[110,99,107]⟩:ByteArray),(⟨#[110,97]⟩:ByteArray),(⟨#[110,98]⟩:ByteArray)]:List ByteArray) h rfl rfl rfl rfl rfl rfl rfl rfl rfl ⟨rfl,rfl,rfl,trivial⟩ rfl fun w2 p2 S2 h=>r_v (qat qb [1] [.tmp 18] rfl rfl rfl rfl rfl rfl rfl rfl) rfl (qB qb h rfl rfl rfl fun w3 bb3 h=>zs 0 h rfl fun w4 h=>zNSR (r_v (qat qb [0,1] [.const (.string (⟨#[99,107]⟩:ByteArray)),.const (.int .i64 (1))] rfl rfl rfl rfl rfl rfl rfl rfl) rfl (r_v (qat qb [0,1,2] [.const (.string (⟨#[97]⟩:ByteArray)),.const (.int .i64 (1)),.const (.int .i64 (1))] rfl rfl rfl rfl rfl rfl rfl rfl) rfl (r_v (qat qb [0,1,2] [.const (.string (⟨#[98]⟩:ByteArray)),.const (.int .i64 (1)),.const (.int .i64 (2))] rfl rfl rfl rfl rfl rfl rfl rfl) rfl (qm qb [.tmp 20,.tmp 21,.tmp 22] _ ([(⟨(⟨#[99,107]⟩:ByteArray),1,0⟩:qam),(⟨(⟨#[97]⟩:ByteArray),1,1⟩:qam),(⟨(⟨#[98]⟩:ByteArray),1,2⟩:qam)]:List qam) h rfl rfl rfl rfl rfl rfl rfl rfl rfl ⟨(qhw (⟨(⟨#[99,107]⟩:ByteArray),1,0⟩:qam)),(qhw (⟨(⟨#[97]⟩:ByteArray),1,1⟩:qam)),(qhw (⟨(⟨#[98]⟩:ByteArray),1,2⟩:qam)),trivial⟩ rfl fun w5 p3 S3 h=>zp1 rfl (zs 1 h rfl fun w6 h=>zNSR (qm qb [.const (.int .i64 (2)),.const (.int .i64 (2)),.const (.int .i64 (3)),.const (.int .i64 (3)),.const (.int .i64 (4)),.const (.int .i64 (3)),.const (.int .i64 (3)),.const (.int .i64 (3))] _ ([2,2,3,3,4,3,3,3]:List Int) h rfl rfl rfl rfl rfl rfl rfl rfl rfl ⟨rfl,rfl,rfl,rfl,rfl,rfl,rfl,rfl,trivial⟩ rfl fun w7 p4 S4 h=>X0 4 rfl (qdV qb [] _ ([]:List qz) [0,1,2,3,4,5,6] h rfl rfl rfl rfl rfl rfl rfl rfl rfl qgr rfl rfl fun w8 p5 S5 h=>X0 4 rfl (qm qb [] _ ([]:List ByteArray) h rfl rfl rfl rfl rfl rfl rfl rfl rfl trivial rfl fun w9 p6 S6 h=>X1 2 4 h rfl ?_))))))))))))
 obtain ⟨x1,hx1,hF⟩:=qe hF
 obtain ⟨g1,hx1⟩:=qr hx1
 refine qaf qb 0 h rfl (h.sl 5 rfl).1 (h.sl 5 rfl).2 rfl rfl rfl rfl rfl rfl rfl rfl rfl g1 hx1 rfl fun w10 p7 k2 S7 h=>X0 8 rfl ?_
 replace h:=h.pick [7,0,1,2,3,4,5,6,8] rfl
 obtain ⟨o1,hr1,hF⟩:=qe hF
 obtain ⟨i1,i2,i3⟩:=o1
 refine nxC h ((qf (h.frG 8 0 1 rfl rfl rfl)).1) hr1 rfl rfl rfl fun w11 h=>X0 3 rfl ?_
 obtain ⟨o2,hF,hK1⟩:=qe hF
 refine ql (rL (fun m e w'=>∃ (S8:Nat→Prop) (p8:Option Addr) (ln1:Nat) (k3:Nat) (x2:(List ByteArray)) (S9:Nat→Prop) (p9:Option Addr) (ln2:Nat) (k4:Nat) (x3:(List qz)) (i4:Int) (i5:Int) (i6:Int),qej a_0 m x2 x3 i4 i5 i6=some o2∧e=[(0,.pointer (some ⟨bb1,0,none⟩)),(2,.bool a_2),(6,.pointer (some ⟨bb2,0,none⟩)),(7,.pointer (some ⟨bb3,0,none⟩)),(8,.slice p4 8 8),(9,.slice p9 ln2 k4),(10,.slice p8 ln1 k3),(11,.int .i64 i6)]∧SH w0 w' [Ch.box bb1 [.slice p1 a_0.code.length k1,.int .i64 i4,.int .i64 i5] 184,Ch.own S8 (x2:List ByteArray) [.slice p8 ln1 k3],Ch.own S9 (x3:List qz) [.slice p9 ln2 k4],Ch.own S4 (([2,2,3,3,4,3,3,3]:List Int):List Int) [.slice p4 8 8],Ch.own S3 (([(⟨(⟨#[99,107]⟩:ByteArray),1,0⟩:qam),(⟨(⟨#[97]⟩:ByteArray),1,1⟩:qam),(⟨(⟨#[98]⟩:ByteArray),1,2⟩:qam)]:List qam):List qam) [.slice p3 3 3],Ch.box bb3 [.slice none 0 0,.slice p2 3 3,.slice p3 3 3] 31,Ch.own S2 (([(⟨#[110,99,107]⟩:ByteArray),(⟨#[110,97]⟩:ByteArray),(⟨#[110,98]⟩:ByteArray)]:List ByteArray):List ByteArray) [.slice p2 3 3],Ch.box bb2 [.slice none 0 0,.slice none 0 0,.slice none 0 0] 31,Ch.grp (old w0) (FS F) [fct (a_0:Tl01Source) [.slice p1 a_0.code.length k1,.int .i64 a_0.at_,.int .i64 a_0.seed],same w0 w F]]) n ⟨_,_,_,_,_,_,_,_,_,_,_,_,_,hF,rfl,h⟩ rfl ?_)
 rintro m1 e1 w12 ⟨S8,p8,ln1,k3,x2,S9,p9,ln2,k4,x3,i4,i5,i6,hF,rfl,h⟩
 obtain rfl:=(h.sl 1 rfl).2
 obtain rfl:=(h.sl 2 rfl).2
 rcases m1 with _|m1
 ·cases hF
 refine X0 6 rfl (qk rfl hF ?_ ?_)<;>intro hF
 ·refine zKSBSR (qm qb [.const (.int .i64 (0)),.const (.int .i64 (1)),.const (.int .i64 (2)),.const (.int .i64 (2)),.const (.int .i64 (3)),.const (.int .i64 (4)),.const (.int .i64 (5)),.const (.int .i64 (5)),.const (.int .i64 (5)),.const (.int .i64 (6)),.const (.int .i64 (7)),.const (.int .i64 (1))] _ ([0,1,2,2,3,4,5,5,5,6,7,1]:List Int) h rfl rfl rfl rfl rfl rfl rfl rfl rfl ⟨rfl,rfl,rfl,rfl,rfl,rfl,rfl,rfl,rfl,rfl,rfl,rfl,trivial⟩ rfl fun w13 p10 S10 h=>zp1 rfl ?_)
  replace h:=h.pick [1,0,2,3,4,5,6,7,8,9] rfl
  obtain ⟨o3,hr2,hF⟩:=qe hF
  obtain ⟨i7,i8,i9⟩:=o3
  refine nxC h ((qf (h.frG 9 0 1 rfl rfl rfl)).1) hr2 rfl rfl rfl fun w14 h=>?_
  obtain ⟨y1,hy1,hF,he1,b1,_,q1,cs2,hp1,hq1,rfl,hc2⟩:=(h.sl 1 rfl).1.ix hF
  refine zx hp1 hq1 ⟨he1.1,qI he1.2.1 (h.sl 1 rfl).2⟩ rfl (zc 0 hc2 rfl (X0 6 rfl (zcS h hF qiN rfl fun r1 w15 h hF=>?_)))
  obtain ⟨z1,hx2,hF⟩:=qe hF
  obtain ⟨g2,hx2⟩:=qit hx2
  refine r_v (qon g2 rfl rfl) rfl ?_
  rw [hx2]
  refine zp1 rfl (r_v (qat qb [0,1] [.tmp 48,.tmp 49] rfl rfl rfl rfl rfl rfl rfl rfl) rfl (qB qb h rfl rfl rfl fun w16 bb4 h=>zs 0 h rfl fun w17 h=>X0 6 rfl ?_))
  replace h:=h.nil (α:=Int)
  obtain ⟨o4,hF,hK2⟩:=qe hF
  refine ql ?_
  replace h:=h.pick [0,1,2,4,5,6,7,8,9,10,11] rfl
  refine rL (fun m e w'=>∃ (S11:Nat→Prop) (p11:Option Addr) (ln3:Nat) (k5:Nat) (x4:(List Int)) (i10:Int) (i11:Int) (i12:Int),qdr a_0 x2 y1 m x4 i10 i11 i12=some o4∧e=[(0,.pointer (some ⟨bb1,0,none⟩)),(2,.bool a_2),(6,.pointer (some ⟨bb2,0,none⟩)),(7,.pointer (some ⟨bb3,0,none⟩)),(8,.slice p4 8 8),(9,.slice p9 x3.length k4),(10,.slice p8 x2.length k3),(11,.int .i64 i6),(12,.int .i64 y1),(13,.pointer (some ⟨bb4,0,none⟩)),(14,.int .i64 i12)]∧SH w0 w' [Ch.own S11 (x4:List Int) [.slice p11 ln3 k5],Ch.box bb4 [.string z1,.int .i64 y1,.slice p11 ln3 k5] 191,Ch.box bb1 [.slice p1 a_0.code.length k1,.int .i64 i10,.int .i64 i11] 184,Ch.own S8 (x2:List ByteArray) [.slice p8 x2.length k3],Ch.own S9 (x3:List qz) [.slice p9 x3.length k4],Ch.own S4 (([2,2,3,3,4,3,3,3]:List Int):List Int) [.slice p4 8 8],Ch.own S3 (([(⟨(⟨#[99,107]⟩:ByteArray),1,0⟩:qam),(⟨(⟨#[97]⟩:ByteArray),1,1⟩:qam),(⟨(⟨#[98]⟩:ByteArray),1,2⟩:qam)]:List qam):List qam) [.slice p3 3 3],Ch.box bb3 [.slice none 0 0,.slice p2 3 3,.slice p3 3 3] 31,Ch.own S2 (([(⟨#[110,99,107]⟩:ByteArray),(⟨#[110,97]⟩:ByteArray),(⟨#[110,98]⟩:ByteArray)]:List ByteArray):List ByteArray) [.slice p2 3 3],Ch.box bb2 [.slice none 0 0,.slice none 0 0,.slice none 0 0] 31,Ch.grp (old w0) (FS F) [fct (a_0:Tl01Source) [.slice p1 a_0.code.length k1,.int .i64 a_0.at_,.int .i64 a_0.seed],same w0 w F]]) m1 ⟨_,_,_,_,_,_,_,_,hF,rfl,h⟩ rfl ?_
  rintro m2 e2 w18 ⟨S11,p11,ln3,k5,x4,i10,i11,i12,hF,rfl,h⟩
  obtain rfl:=(h.sl 0 rfl).2
  rcases m2 with _|m2
  ·cases hF
  refine X0 6 rfl ?_
  obtain ⟨y2,hy2,hF,he2,b2,_,q2,cs3,hp2,hq2,rfl,hc3⟩:=(h.sl 5 rfl).1.ix hF
  refine zx hp2 hq2 ⟨he2.1,qI he2.2.1 (h.sl 5 rfl).2⟩ rfl (zc 0 hc3 rfl (X0 3 rfl (qk rfl hF ?_ ?_)))<;>intro hF
  ·refine X0 9 rfl ?_
   replace h:=h.pick [2,0,1,3,4,5,6,7,8,9,10] rfl
   obtain ⟨o5,hr6,hF⟩:=qe hF
   obtain ⟨i13,i14,i15⟩:=o5
   refine nxC h ((qf (h.frG 10 0 1 rfl rfl rfl)).1) hr6 rfl rfl rfl fun w19 h=>X0 7 rfl ?_
   obtain ⟨o6,hr7,hF⟩:=qe hF
   obtain ⟨i16,i17,i18⟩:=o6
   refine nxC h ((qf (h.frG 10 0 1 rfl rfl rfl)).1) hr7 rfl rfl rfl fun w20 h=>X0 2 rfl ?_
   obtain ⟨KF2,hKF2,o8,hF,hK4⟩:=bindE hF
   refine qa8 (fun e w'=>∃ (i19:Int),KF2 i19=some o4∧e=[(0,.pointer (some ⟨bb1,0,none⟩)),(2,.bool a_2),(6,.pointer (some ⟨bb2,0,none⟩)),(7,.pointer (some ⟨bb3,0,none⟩)),(8,.slice p4 8 8),(9,.slice p9 x3.length k4),(10,.slice p8 x2.length k3),(11,.int .i64 i6),(12,.int .i64 y1),(13,.pointer (some ⟨bb4,0,none⟩)),(14,.int .i64 i12),(15,.int .i64 i19)]∧SH w0 w' [Ch.box bb1 [.slice p1 a_0.code.length k1,.int .i64 i17,.int .i64 i18] 184,Ch.own S11 (x4:List Int) [.slice p11 x4.length k5],Ch.box bb4 [.string z1,.int .i64 y1,.slice p11 x4.length k5] 191,Ch.own S8 (x2:List ByteArray) [.slice p8 x2.length k3],Ch.own S9 (x3:List qz) [.slice p9 x3.length k4],Ch.own S4 (([2,2,3,3,4,3,3,3]:List Int):List Int) [.slice p4 8 8],Ch.own S3 (([(⟨(⟨#[99,107]⟩:ByteArray),1,0⟩:qam),(⟨(⟨#[97]⟩:ByteArray),1,1⟩:qam),(⟨(⟨#[98]⟩:ByteArray),1,2⟩:qam)]:List qam):List qam) [.slice p3 3 3],Ch.box bb3 [.slice none 0 0,.slice p2 3 3,.slice p3 3 3] 31,Ch.own S2 (([(⟨#[110,99,107]⟩:ByteArray),(⟨#[110,97]⟩:ByteArray),(⟨#[110,98]⟩:ByteArray)]:List ByteArray):List ByteArray) [.slice p2 3 3],Ch.box bb2 [.slice none 0 0,.slice none 0 0,.slice none 0 0] 31,Ch.grp (old w0) (FS F) [fct (a_0:Tl01Source) [.slice p1 a_0.code.length k1,.int .i64 a_0.at_,.int .i64 a_0.seed],same w0 w F]]) ?_ ?_
   ·refine qk rfl hF ?_ ?_<;>intro hF
    ·refine X0 6 rfl ?_
     obtain rfl:=qc hF
     exact rG ⟨_,hK4,rfl,h⟩ rfl
    refine qeg ?_
    obtain rfl:=qc hF
    exact rG ⟨_,hK4,rfl,h⟩ rfl
   rintro e4 w32 ⟨i19,hF,rfl,h⟩
   subst hKF2
   refine zSS ?_
   obtain ⟨KF1,hKF1,o7,hF,hK3⟩:=bindE hF
   refine qa8 (fun e w'=>∃ (b3:Bool),KF1 b3=some o4∧e=[(0,.pointer (some ⟨bb1,0,none⟩)),(2,.bool a_2),(6,.pointer (some ⟨bb2,0,none⟩)),(7,.pointer (some ⟨bb3,0,none⟩)),(8,.slice p4 8 8),(9,.slice p9 x3.length k4),(10,.slice p8 x2.length k3),(11,.int .i64 i6),(12,.int .i64 y1),(13,.pointer (some ⟨bb4,0,none⟩)),(14,.int .i64 i12),(15,.int .i64 i19),(77,.bool b3)]∧SH w0 w' [Ch.box bb1 [.slice p1 a_0.code.length k1,.int .i64 i17,.int .i64 i18] 184,Ch.own S11 (x4:List Int) [.slice p11 x4.length k5],Ch.box bb4 [.string z1,.int .i64 y1,.slice p11 x4.length k5] 191,Ch.own S8 (x2:List ByteArray) [.slice p8 x2.length k3],Ch.own S9 (x3:List qz) [.slice p9 x3.length k4],Ch.own S4 (([2,2,3,3,4,3,3,3]:List Int):List Int) [.slice p4 8 8],Ch.own S3 (([(⟨(⟨#[99,107]⟩:ByteArray),1,0⟩:qam),(⟨(⟨#[97]⟩:ByteArray),1,1⟩:qam),(⟨(⟨#[98]⟩:ByteArray),1,2⟩:qam)]:List qam):List qam) [.slice p3 3 3],Ch.box bb3 [.slice none 0 0,.slice p2 3 3,.slice p3 3 3] 31,Ch.own S2 (([(⟨#[110,99,107]⟩:ByteArray),(⟨#[110,97]⟩:ByteArray),(⟨#[110,98]⟩:ByteArray)]:List ByteArray):List ByteArray) [.slice p2 3 3],Ch.box bb2 [.slice none 0 0,.slice none 0 0,.slice none 0 0] 31,Ch.grp (old w0) (FS F) [fct (a_0:Tl01Source) [.slice p1 a_0.code.length k1,.int .i64 a_0.at_,.int .i64 a_0.seed],same w0 w F]]) ?_ ?_
   ·refine X0 4 rfl (qh (t:=74) hF rfl ?_ ?_)<;>intro hF
    ·refine X0 6 rfl ?_
     obtain rfl:=qc hF
     exact rG ⟨_,hK3,rfl,h⟩ rfl
    refine X0 4 rfl ?_
    obtain rfl:=qc hF
    exact rG ⟨_,hK3,rfl,h⟩ rfl
   rintro e3 w31 ⟨b3,hF,rfl,h⟩
   subst hKF1
   refine qk rfl hF ?_ ?_<;>intro hF
   ·refine X0 4 rfl (qm qb [] _ ([]:List Int) h rfl rfl rfl rfl rfl rfl rfl rfl rfl trivial rfl fun w21 p12 S12 h=>X1 2 3 h rfl ?_)
    obtain ⟨x5,hx3,hF⟩:=qe hF
    obtain ⟨g3,hx3⟩:=qr hx3
    refine qaf qb 0 h rfl (h.sl 2 rfl).1 (h.sl 2 rfl).2 rfl rfl rfl rfl rfl rfl rfl rfl rfl g3 hx3 rfl fun w22 p13 k6 S13 h=>zp1 rfl (qm qb [.tmp 82] _ ([0]:List Int) h rfl rfl rfl rfl rfl rfl rfl rfl rfl ⟨rfl,trivial⟩ rfl fun w23 p14 S14 h=>?_)
    obtain ⟨x6,hx4,hF⟩:=qe hF
    obtain ⟨g4,hx4⟩:=qr hx4
    refine qaf qb 1 h rfl (h.sl 0 rfl).1 (h.sl 0 rfl).2 rfl rfl rfl rfl rfl rfl rfl rfl rfl g4 hx4 rfl fun w24 p15 k7 S15 h=>zp1 rfl (zs 4 h rfl fun w25 h=>X0 7 rfl ?_)
    replace h:=h.pick [1,4,2,5,6,7,8,9,10,11,12] rfl
    exact rK ⟨_,_,_,_,_,_,_,_,hF,rfl,h⟩ rfl
   refine X0 2 rfl (qm qb [] _ ([]:List Int) h rfl rfl rfl rfl rfl rfl rfl rfl rfl trivial rfl fun w26 p16 S16 h=>X1 2 3 h rfl ?_)
   obtain ⟨x7,hx5,hF⟩:=qe hF
   obtain ⟨g5,hx5⟩:=qr hx5
   refine qaf qb 0 h rfl (h.sl 2 rfl).1 (h.sl 2 rfl).2 rfl rfl rfl rfl rfl rfl rfl rfl rfl g5 hx5 rfl fun w27 p17 k8 S17 h=>zp1 rfl (qm qb [.tmp 82] _ ([i19]:List Int) h rfl rfl rfl rfl rfl rfl rfl rfl rfl ⟨rfl,trivial⟩ rfl fun w28 p18 S18 h=>?_)
   obtain ⟨x8,hx6,hF⟩:=qe hF
   obtain ⟨g6,hx6⟩:=qr hx6
   refine qaf qb 1 h rfl (h.sl 0 rfl).1 (h.sl 0 rfl).2 rfl rfl rfl rfl rfl rfl rfl rfl rfl g6 hx6 rfl fun w29 p19 k9 S19 h=>zp1 rfl (zs 4 h rfl fun w30 h=>X0 7 rfl ?_)
   replace h:=h.pick [1,4,2,5,6,7,8,9,10,11,12] rfl
   exact rK ⟨_,_,_,_,_,_,_,_,hF,rfl,h⟩ rfl
  refine qp rfl ?_
  obtain rfl:=qc hF;replace hF:=hK2
  refine zSR (qm qb [] _ ([]:List Int) h rfl rfl rfl rfl rfl rfl rfl rfl rfl trivial rfl fun w33 p20 S20 h=>X1 2 2 h rfl ?_)
  obtain ⟨x9,hx7,hF⟩:=qe hF
  obtain ⟨g7,hx7⟩:=qr hx7
  refine qaf qb 0 h rfl (h.sl 1 rfl).1 (h.sl 1 rfl).2 rfl rfl rfl rfl rfl rfl rfl rfl rfl g7 hx7 rfl fun w34 p21 k10 S21 h=>zp2 rfl (qm qb [.tmp 91] _ ([(x2.length:Int)]:List Int) h rfl rfl rfl rfl rfl rfl rfl rfl rfl ⟨rfl,trivial⟩ rfl fun w35 p22 S22 h=>?_)
  obtain ⟨x10,hx8,hF⟩:=qe hF
  obtain ⟨g8,hx8⟩:=qr hx8
  refine qaf qb 1 h rfl (h.sl 0 rfl).1 (h.sl 0 rfl).2 rfl rfl rfl rfl rfl rfl rfl rfl rfl g8 hx8 rfl fun w36 p23 k11 S23 h=>zp1 rfl (zs 3 h rfl fun w37 h=>X0 6 rfl (zcS h hF qiN rfl fun r2 w38 h hF=>?_))
  obtain ⟨z2,hx9,hF⟩:=qe hF
  obtain ⟨g9,hx9⟩:=qit hx9
  refine r_v (qon g9 rfl rfl) rfl ?_
  rw [hx9]
  refine qm qb [.tmp 99] _ ([z2]:List ByteArray) h rfl rfl rfl rfl rfl rfl rfl rfl rfl ⟨rfl,trivial⟩ rfl fun w39 p24 S24 h=>?_
  obtain ⟨x11,hx10,hF⟩:=qe hF
  obtain ⟨g10,hx10⟩:=qr hx10
  refine qaf qb 6 h rfl (h.sl 0 rfl).1 (h.sl 0 rfl).2 rfl rfl rfl rfl rfl rfl rfl rfl rfl g10 hx10 rfl fun w40 p25 k12 S25 h=>X1 5 4 h rfl (qdV qb [.tmp 103] _ ([(⟨z1,y1,x10⟩:qz)]:List qz) [0,1,3,4,5,6,7,8,9,10,11,12,13] h rfl rfl rfl rfl rfl rfl rfl rfl rfl (qcn (qlD (⟨z1,y1,x10⟩:qz) h (qu (S:=fun _=>False) rfl) (qu (S:=fun _=>False) rfl) (qC 2 h rfl) (by rfl) (by rfl)) qgr rfl) rfl rfl fun w41 p26 S26 h=>?_)
  obtain ⟨x12,hx11,hF⟩:=qe hF
  obtain ⟨g11,hx11⟩:=qr hx11
  replace h:=h.pick [0,7,1,2,3,4,5,6,8,9,10,11,12,13] rfl
  refine qkV qb h rfl rfl rfl rfl rfl rfl rfl rfl rfl g11 hx11 rfl fun w42 p27 k13 S27 h=>X0 8 rfl ?_
  replace h:=h.pick [5,6,0,7,8,9,10,11,12] rfl
  exact rK ⟨_,_,_,_,_,_,_,_,_,_,_,_,_,hF,rfl,h⟩ rfl
 refine qp rfl ?_
 obtain rfl:=qc hF;replace hF:=hK1
 refine X0 5 rfl ?_
 obtain ⟨o9,hF,hK5⟩:=qe hF
 refine ql ?_
 replace h:=h.pick [0,1,2,4,5,6,7,8] rfl
 refine rL (fun m e w'=>∃ (S28:Nat→Prop) (x13:(List qz)) (i20:Int) (i21:Int) (i22:Int),qdq a_0 a_2 x2 x3 m x13 i20 i21 i22=some o9∧e=[(0,.pointer (some ⟨bb1,0,none⟩)),(2,.bool a_2),(6,.pointer (some ⟨bb2,0,none⟩)),(7,.pointer (some ⟨bb3,0,none⟩)),(9,.slice p9 x3.length k4),(10,.slice p8 x2.length k3),(16,.int .i64 i22)]∧SH w0 w' [Ch.box bb1 [.slice p1 a_0.code.length k1,.int .i64 i20,.int .i64 i21] 184,Ch.own S8 (x2:List ByteArray) [.slice p8 x2.length k3],Ch.own S28 (x13:List qz) [.slice p9 x3.length k4],Ch.own S3 (([(⟨(⟨#[99,107]⟩:ByteArray),1,0⟩:qam),(⟨(⟨#[97]⟩:ByteArray),1,1⟩:qam),(⟨(⟨#[98]⟩:ByteArray),1,2⟩:qam)]:List qam):List qam) [.slice p3 3 3],Ch.box bb3 [.slice none 0 0,.slice p2 3 3,.slice p3 3 3] 31,Ch.own S2 (([(⟨#[110,99,107]⟩:ByteArray),(⟨#[110,97]⟩:ByteArray),(⟨#[110,98]⟩:ByteArray)]:List ByteArray):List ByteArray) [.slice p2 3 3],Ch.box bb2 [.slice none 0 0,.slice none 0 0,.slice none 0 0] 31,Ch.grp (old w0) (FS F) [fct (a_0:Tl01Source) [.slice p1 a_0.code.length k1,.int .i64 a_0.at_,.int .i64 a_0.seed],same w0 w F]]) n ⟨_,_,_,_,_,hF,rfl,h⟩ rfl ?_
 rintro m3 e5 w43 ⟨S28,x13,i20,i21,i22,hF,rfl,h⟩
 rcases m3 with _|m3
 ·cases hF
 refine X0 8 rfl (qk rfl hF ?_ ?_)<;>intro hF
 ·refine X0 4 rfl ?_
  obtain ⟨KF3,hKF3,o11,hF,hK6⟩:=bindE hF
  refine qa8 (fun e w'=>∃ (i23:Int) (i24:Int) (b4:Bool),KF3 (i23,i24,b4)=some o9∧e=[(0,.pointer (some ⟨bb1,0,none⟩)),(2,.bool a_2),(6,.pointer (some ⟨bb2,0,none⟩)),(7,.pointer (some ⟨bb3,0,none⟩)),(9,.slice p9 x3.length k4),(10,.slice p8 x2.length k3),(16,.int .i64 i22),(133,.bool b4)]∧SH w0 w' [Ch.box bb1 [.slice p1 a_0.code.length k1,.int .i64 i23,.int .i64 i24] 184,Ch.own S8 (x2:List ByteArray) [.slice p8 x2.length k3],Ch.own S28 (x13:List qz) [.slice p9 x3.length k4],Ch.own S3 (([(⟨(⟨#[99,107]⟩:ByteArray),1,0⟩:qam),(⟨(⟨#[97]⟩:ByteArray),1,1⟩:qam),(⟨(⟨#[98]⟩:ByteArray),1,2⟩:qam)]:List qam):List qam) [.slice p3 3 3],Ch.box bb3 [.slice none 0 0,.slice p2 3 3,.slice p3 3 3] 31,Ch.own S2 (([(⟨#[110,99,107]⟩:ByteArray),(⟨#[110,97]⟩:ByteArray),(⟨#[110,98]⟩:ByteArray)]:List ByteArray):List ByteArray) [.slice p2 3 3],Ch.box bb2 [.slice none 0 0,.slice none 0 0,.slice none 0 0] 31,Ch.grp (old w0) (FS F) [fct (a_0:Tl01Source) [.slice p1 a_0.code.length k1,.int .i64 a_0.at_,.int .i64 a_0.seed],same w0 w F]]) ?_ ?_
  ·refine X0 2 rfl ?_
   obtain ⟨o12,hr11,hF⟩:=qe hF
   obtain ⟨i28,i29,i30⟩:=o12
   refine nxC h ((qf (h.frG 7 0 1 rfl rfl rfl)).1) hr11 rfl rfl rfl fun w47 h=>zp2 rfl (qh (t:=115) hF rfl ?_ ?_)<;>intro hF
   ·refine X0 5 rfl ?_
    obtain ⟨y5,hy5,hF⟩:=qe hF
    have he5:=qax hy5
    replace h:=h.lrn0 2 rfl
    obtain ⟨b7,o_4,q5,cs6,hp5,hq5,-,hr12,hc10⟩:=(qfz (h.lrnO 2 rfl)).1.at hy5
    have hr13:=hr12
    obtain ⟨p29,k15,rfl,s2⟩:=qaB hr12
    replace h:=h.lrnAdd 2 rfl hr13
    refine zx hp5 hq5 ⟨he5.1,qI he5.2.1 (qfz (h.lrnO 2 rfl)).2⟩ rfl (X0 3 rfl (zc 1 hc10 rfl (X0 4 rfl (qh (t:=122) hF rfl ?_ ?_))))<;>intro hF
    ·refine X0 15 rfl ?_
     replace h:=h.unlrn 2 rfl
     obtain rfl:=qc hF
     exact rG ⟨_,_,_,hK6,rfl,h⟩ rfl
    refine X0 5 rfl ?_
    obtain ⟨y6,hy6,hF,he6,b8,_,q6,cs7,hp6,hq6,hr14,hc11⟩:=(qfz (h.lrnO 2 rfl)).1.ix hF
    have hr15:=hr14
    obtain ⟨p30,k16,rfl,s3⟩:=qaB hr14
    replace h:=h.lrnAdd 2 rfl hr15
    refine zx hp6 hq6 ⟨he6.1,qI he6.2.1 (qfz (h.lrnO 2 rfl)).2⟩ rfl (X0 3 rfl (zc 1 hc11 rfl (X0 6 rfl (qh (t:=130) hF rfl ?_ ?_))))<;>intro hF
    ·refine X0 5 rfl ?_
     replace h:=h.unlrn 2 rfl
     obtain rfl:=qc hF
     exact rG ⟨_,_,_,hK6,rfl,h⟩ rfl
    refine X0 6 rfl ?_
    replace h:=h.unlrn 2 rfl
    obtain rfl:=qc hF
    exact rG ⟨_,_,_,hK6,rfl,h⟩ rfl
   refine X0 19 rfl ?_
   obtain rfl:=qc hF
   exact rG ⟨_,_,_,hK6,rfl,h⟩ rfl
  rintro e6 w48 ⟨i23,i24,b4,hF,rfl,h⟩
  subst hKF3
  refine qk rfl hF ?_ ?_<;>intro hF
  ·obtain ⟨y3,hy3,hF⟩:=qe hF
   have he3:=qax hy3
   replace h:=h.pick [2,0,1,3,4,5,6,7] rfl
   obtain ⟨S29,S30,cs4,h⟩:=h.take hy3
   obtain ⟨p28,k14,rfl,-⟩:=qaB (h.own 0 rfl)
   obtain ⟨S31,h⟩:=qmG h
   refine rA [] [1] h rfl fun w44 h=>M0 3 [0,1] (h.pick [1] rfl) rfl ?_
   obtain ⟨b5,hp3,-,-,hl2⟩:=h.holeAt 1 rfl
   obtain ⟨q3,hq3⟩:∃ q,q=0+(i22).toNat*GoT.k qz:=⟨_,rfl⟩
   refine Ax 2 7 hp3 hq3 ⟨he3.1,qI he3.2.1 hl2⟩ (h.pick [1] rfl) rfl (M0 15 [3] (h.pick [1] rfl) rfl (Aw 4 31 (fun w' hw=>qfk qb (qfr hw 0 rfl hp3 hq3) (j:=2) rfl rfl rfl) (h.pick [1] rfl) rfl ?_))
   refine M0 511 [5,6,7,8] (h.pick [1] rfl) rfl (Ao 9 1023 rfl ?_)
   replace h:=h.pick [2,0,1,3,4,5,6,7,8] rfl
   obtain ⟨o10,hr9,hF⟩:=qe hF
   obtain ⟨i25,i26,i27⟩:=o10
   refine nxC h ((qf (h.frG 8 0 1 rfl rfl rfl)).1) hr9 rfl rfl rfl fun w45 h=>G0 2047 [10] (h.pick [2] rfl) rfl ?_
   obtain ⟨y4,hy4,hF,he4,b6,_,q4,cs5,hp4,hq4,rfl,hc9⟩:=(h.sl 1 rfl).1.ix hF
   refine Ax 11 4095 hp4 hq4 ⟨he4.1,qI he4.2.1 (h.sl 1 rfl).2⟩ (h.pick [2] rfl) rfl (Ao 12 8191 rfl (qbE qb 1 0 (W64 (1+i25)) h rfl hy4 hp4 hq4 rfl hc9 rfl rfl rfl rfl rfl rfl rfl fun w46 h=>Ag (h.pick [2] rfl) (Ad (X0 6 rfl ?_))))
   obtain ⟨S32,h⟩:=h.gather [0,2,3,4,5,6,7,8] (qlD (⟨y3.Au,y3.Az,(setS y3.Ai 0 (W64 (1+i25)))⟩:qz) h (qu (S:=fun _=>False) rfl) (qu (S:=fun _=>False) rfl) (qC 1 h rfl) (by rfl) (by rfl)) rfl
   replace h:=h.pick [0,2,1,3,4,5,6,7,8] rfl
   replace h:=h.put
   obtain ⟨S33,h⟩:=qjV (S:=_) h
   replace h:=h.pick [1,2,0,3,4,5,6,7] rfl
   exact rK ⟨_,_,_,_,_,hF,rfl,h⟩ rfl
  exact X0 7 rfl (rK ⟨_,_,_,_,_,hF,rfl,h⟩ rfl)
 refine qp rfl ?_
 obtain rfl:=qc hF;replace hF:=hK5
 refine zSR (qm qb [] _ ([]:List qam) h rfl rfl rfl rfl rfl rfl rfl rfl rfl trivial rfl fun w49 p31 S34 h=>X1 2 5 h rfl ?_)
 obtain ⟨x14,hx12,hF⟩:=qe hF
 obtain ⟨g12,hx12⟩:=qr hx12
 refine qaf qb 0 h rfl (h.sl 4 rfl).1 (h.sl 4 rfl).2 rfl rfl rfl rfl rfl rfl rfl rfl rfl g12 hx12 rfl fun w50 p32 k17 S35 h=>X0 8 rfl (r_v (qat qb [0,1,2] [.const (.string (⟨#[121]⟩:ByteArray)),.const (.int .i64 (2)),.tmp 153] rfl rfl rfl rfl rfl rfl rfl rfl) rfl (qm qb [.tmp 154] _ ([(⟨(⟨#[121]⟩:ByteArray),2,W64 ((x2.length:Int)-1)⟩:qam)]:List qam) h rfl rfl rfl rfl rfl rfl rfl rfl rfl ⟨(qhw (⟨(⟨#[121]⟩:ByteArray),2,W64 ((x2.length:Int)-1)⟩:qam)),trivial⟩ rfl fun w51 p33 S36 h=>?_))
 obtain ⟨x15,hx13,hF⟩:=qe hF
 obtain ⟨g13,hx13⟩:=qr hx13
 refine qaf qb 1 h rfl (h.sl 0 rfl).1 (h.sl 0 rfl).2 rfl rfl rfl rfl rfl rfl rfl rfl rfl g13 hx13 rfl fun w52 p34 k18 S37 h=>X0 6 rfl ?_
 replace h:=h.pick [2,0,1,3,4,5,6,7,8,9] rfl
 obtain ⟨o13,hr16,hF⟩:=qe hF
 obtain ⟨i31,i32,i33⟩:=o13
 refine nxC h ((qf (h.frG 9 0 1 rfl rfl rfl)).1) hr16 rfl rfl rfl fun w53 h=>X0 2 rfl (qk rfl hF ?_ ?_)<;>intro hF
 ·refine X0 6 rfl ?_
  obtain ⟨o14,hr17,hF⟩:=qe hF
  obtain ⟨i34,i35,i36⟩:=o14
  refine nxC h ((qf (h.frG 9 0 1 rfl rfl rfl)).1) hr17 rfl rfl rfl fun w54 h=>zp1 rfl (r_v (qat qb [0,1,2] [.const (.string (⟨#[122]⟩:ByteArray)),.const (.int .i64 (2)),.tmp 166] rfl rfl rfl rfl rfl rfl rfl rfl) rfl (qm qb [.tmp 167] _ ([(⟨(⟨#[122]⟩:ByteArray),2,W64 (1+i34)⟩:qam)]:List qam) h rfl rfl rfl rfl rfl rfl rfl rfl rfl ⟨(qhw (⟨(⟨#[122]⟩:ByteArray),2,W64 (1+i34)⟩:qam)),trivial⟩ rfl fun w55 p35 S38 h=>?_))
  obtain ⟨x16,hx14,hF⟩:=qe hF
  obtain ⟨g14,hx14⟩:=qr hx14
  refine qaf qb 3 h rfl (h.sl 0 rfl).1 (h.sl 0 rfl).2 rfl rfl rfl rfl rfl rfl rfl rfl rfl g14 hx14 rfl fun w56 p36 k19 S39 h=>X0 7 rfl (r_v (qat qb [0,1,2] [.tmp 170,.tmp 171,.tmp 172] rfl rfl rfl rfl rfl rfl rfl rfl) rfl (zs 9 h rfl fun w57 h=>qa5 ?_))
  have hk1:=h
  obtain ⟨S40,h⟩:=h.gather [0,1,2,6,7,8,9,10] (qnm (⟨x13,x2,x16⟩:qg) h (qC 5 h rfl) (qC 4 h rfl) (qC 3 h rfl) (by rfl) (by rfl)) rfl
  obtain rfl:=qc hF
  replace h:=h.pick [0,2,8] rfl
  exact qbx qb [GoT.v qg [.slice p9 x3.length k4,.slice p8 x2.length k3,.slice p36 x16.length k19]] ⟨⟨_,_,_,rfl,rfl,hk1.box 9 rfl,rfl⟩,trivial⟩ ⟨_,_,rfl,SH.unfr 1 1 h0 h rfl rfl⟩
 refine X0 6 rfl (r_v (qat qb [0,1,2] [.tmp 170,.tmp 171,.tmp 172] rfl rfl rfl rfl rfl rfl rfl rfl) rfl (zs 8 h rfl fun w58 h=>qa5 ?_))
 have hk2:=h
 obtain ⟨S41,h⟩:=h.gather [0,1,5,6,7,8,9] (qnm (⟨x13,x2,x15⟩:qg) h (qC 4 h rfl) (qC 3 h rfl) (qC 2 h rfl) (by rfl) (by rfl)) rfl
 obtain rfl:=qc hF
 replace h:=h.pick [0,1,7] rfl
 exact qbx qb [GoT.v qg [.slice p9 x3.length k4,.slice p8 x2.length k3,.slice p34 x15.length k18]] ⟨⟨_,_,_,rfl,rfl,hk2.box 8 rfl,rfl⟩,trivial⟩ ⟨_,_,rfl,SH.unfr 1 1 h0 h rfl rfl⟩
def qfo (_:Nat) (list:(List Int)):Option (List Int) :=
 (appS ([]:List Int) list).bind fun x1 =>
 some x1
theorem qfw {list:(List Int)} (ha1:GoT.R w (old w) list cs1) {r:(List Int)} (hF:qfo n list=some r):RetV Tryz.prog 178 [GoT.v (List Int) cs1] w r:=by
 obtain ⟨p1,k1,rfl,s1⟩:=ha1
 refine zV 6 Tryz.func178 rfl fun h=>X0 6 rfl (qm qb [] _ ([]:List Int) h rfl rfl rfl rfl rfl rfl rfl rfl rfl trivial rfl fun w1 p2 S1 h=>zp1 rfl ?_)
 obtain ⟨x1,hx1,hF⟩:=qe hF
 obtain ⟨g1,hx1⟩:=qr hx1
 refine qaf qb 0 h rfl (h.oldS s1) rfl rfl rfl rfl rfl rfl rfl rfl rfl rfl g1 hx1 rfl fun w2 p3 k2 S2 h=>X0 2 rfl ?_
 obtain rfl:=qc hF
 exact rO 0 h rfl ⟨rfl,trivial⟩
def qg8 (_:Nat) (sinks:Int) (load:Int):Option qae :=
 (mkS sinks (0:Int)).bind fun x1 =>
 some (⟨([(-1)]:List Int),([0]:List Int),([load]:List Int),x1⟩:qae)
theorem qlE {sinks:Int} {load:Int}  {r:qae} (hF:qg8 n sinks load=some r):RetV Tryz.prog 212 [.int .i64 sinks,.int .i64 load] w r:=by
 refine zV 12 Tryz.func212 rfl fun h=>zSR (qB qb h rfl rfl rfl fun w1 bb1 h=>zNSR (qm qb [.const (.int .i64 (-1))] _ ([(-1)]:List Int) h rfl rfl rfl rfl rfl rfl rfl rfl rfl ⟨rfl,trivial⟩ rfl fun w2 p1 S1 h=>qm qb [.const (.int .i64 (0))] _ ([0]:List Int) h rfl rfl rfl rfl rfl rfl rfl rfl rfl ⟨rfl,trivial⟩ rfl fun w3 p2 S2 h=>zp1 rfl (qm qb [.tmp 7] _ ([load]:List Int) h rfl rfl rfl rfl rfl rfl rfl rfl rfl ⟨rfl,trivial⟩ rfl fun w4 p3 S3 h=>zp1 rfl ?_)))
 obtain ⟨x1,hx1,hF⟩:=qe hF
 obtain ⟨g1,g2,hx1⟩:=qfx hx1
 refine qgC qb Int h rfl rfl rfl rfl rfl rfl rfl rfl rfl g1 g2 hx1 rfl fun w5 S4 p4 h=>r_v (qat qb [0,1,2,3] [.tmp 5,.tmp 6,.tmp 8,.tmp 10] rfl rfl rfl rfl rfl rfl rfl rfl) rfl (zs 4 h rfl fun w6 h=>qa5 ?_)
 obtain rfl:=qc hF
 exact qar qb (ρ:=qae) [GoT.v qae [.slice p1 1 1,.slice p2 1 1,.slice p3 1 1,.slice p4 x1.length x1.length]] h ⟨⟨_,_,_,rfl,rfl,h.box 4 rfl,rfl⟩,trivial⟩ (PV.done h (qaD (qjy (⟨([(-1)]:List Int),([0]:List Int),([load]:List Int),x1⟩:qae) h (qC 3 h rfl) (qC 2 h rfl) (qC 1 h rfl) (qC 0 h rfl) (by rfl) (by rfl) (by rfl))))
def qcA (s:Tl01Source) (r1:qae) (x3:(List Int)):Nat→(List Int)→Int→Int→Int→Option ((List Int) × Int × Int × Int)
 | 0,_,_,_,_=>none
 | n+1,x7,i19,i20,i21 =>
  bif decide (i21<(r1.Ay.length:Int)) then
   (qn n (⟨s.code,i19,i20⟩:Tl01Source) (x3.length:Int)).bind fun o=>match o with
    | (i22,i23,i24) =>
     (idx x7 i21).bind fun _ =>
     qcA s r1 x3 n (setS x7 i21 i22) i23 i24 (W64 (i21+1))
  else
   some (x7,i19,i20,i21)
def qcw (s:Tl01Source):Nat→(List Int)→(List Int)→(List Int)→Int→Int→Int→Option ((List Int) × (List Int) × (List Int) × Int × Int × Int)
 | 0,_,_,_,_,_,_=>none
 | n+1,x1,x2,x3,i7,i8,i9 =>
  bif decide (i9 > 0) then
   (qfo n x3).bind fun r2 =>
   (qn n (⟨s.code,i7,i8⟩:Tl01Source) (x3.length:Int)).bind fun o=>match o with
    | (i10,i11,i12) =>
     (appS r2 ([i10]:List Int)).bind fun x4 =>
     (qfo n x2).bind fun r3 =>
     (qn n (⟨s.code,i11,i12⟩:Tl01Source) 400).bind fun o=>match o with
      | (i13,i14,i15) =>
       (appS r3 ([i13]:List Int)).bind fun x5 =>
       (qfo n x1).bind fun r4 =>
       (qn n (⟨s.code,i14,i15⟩:Tl01Source) 8).bind fun o=>match o with
        | (i16,i17,i18) =>
         (appS r4 ([i16]:List Int)).bind fun x6 =>
         qcw s n x6 x5 x4 i17 i18 (W64 (i9-1))
  else
   some (x1,x2,x3,i7,i8,i9)
def qgk (n:Nat) (s:Tl01Source) (sinks:Int):Option (qae × Int × Int) :=
 (qn n (⟨s.code,s.at_,s.seed⟩:Tl01Source) 6).bind fun o=>match o with
  | (i1,i2,i3) =>
   (qg8 n sinks i1).bind fun r1 =>
   (qn n (⟨s.code,i2,i3⟩:Tl01Source) 4).bind fun o=>match o with
    | (i4,i5,i6) =>
     (qcw s n r1.Bd r1.Bh r1.Ak i5 i6 i4).bind fun o=>match o with
     | (x1,x2,x3,i7,i8,_) =>
      (qcA s r1 x3 n r1.Ay i7 i8 0).bind fun o=>match o with
      | (x7,i19,i20,_) =>
       some ((⟨x3,x2,x1,x7⟩:qae),i19,i20)
theorem qkv {n:Nat} {w0 w:World} {F:List Ch} {s:Tl01Source} {bb1:Nat} {p1:Option Addr} {k1:Nat} {sinks:Int} (h0:SH w0 w (Ch.box bb1 (qan s p1 k1) 184::F)) (ha1:GoT.R w (Fr w0 F) s [.slice p1 s.code.length k1,.int .i64 s.at_,.int .i64 s.seed]) {r:(qae × Int × Int)} (hF:qgk n s sinks=some r):RetW Tryz.prog 181 [.pointer (some ⟨bb1,0,none⟩),.int .i64 sinks] w (fun us w'=>∃ (S1:Nat→Prop) (cs1:List Value),us=[GoT.v qae cs1]∧SH w0 w' (Ch.own S1 (r.1:qae) cs1::Ch.box bb1 [.slice p1 s.code.length k1,.int .i64 r.2.1,.int .i64 r.2.2] 184::F)):=by
 have h:=SH.frm1 h0 ha1
 refine qbr Tryz.func181 rfl (m:=64) rfl rfl (zSR (qB qb h rfl rfl rfl fun w1 bb2 h=>X0 5 rfl ?_))
 replace h:=h.pick [1,0,2] rfl
 obtain ⟨o1,hr1,hF⟩:=qe hF
 obtain ⟨i1,i2,i3⟩:=o1
 refine nxC h ((qf (h.frG 2 0 1 rfl rfl rfl)).1) hr1 rfl rfl rfl fun w2 h=>zcO h hF qlE rfl fun r1 w3 S2 cs2 h hF=>?_
 obtain ⟨p2,k2,p3,k3,p4,k4,p5,k5,rfl,-,-,-,-⟩:=qcm (h.own 0 rfl)
 refine qB qb h rfl rfl rfl fun w4 bb3 h=>zs 0 h rfl fun w5 h=>X0 5 rfl ?_
 replace h:=h.pick [2,0,1,3,4] rfl
 obtain ⟨o2,hr3,hF⟩:=qe hF
 obtain ⟨i4,i5,i6⟩:=o2
 refine nxC h ((qf (h.frG 4 0 1 rfl rfl rfl)).1) hr3 rfl rfl rfl fun w6 h=>X0 2 rfl ?_
 replace h:=h.pick [2,0,1,3,4] rfl
 obtain ⟨S3,S4,S5,S6,h⟩:=qhY h
 obtain ⟨o3,hF,hK1⟩:=qe hF
 refine ql (rL (fun m e w'=>∃ (S7:Nat→Prop) (p6:Option Addr) (ln1:Nat) (k6:Nat) (x1:(List Int)) (S8:Nat→Prop) (p7:Option Addr) (ln2:Nat) (k7:Nat) (x2:(List Int)) (S9:Nat→Prop) (p8:Option Addr) (ln3:Nat) (k8:Nat) (x3:(List Int)) (i7:Int) (i8:Int) (i9:Int),qcw s m x1 x2 x3 i7 i8 i9=some o3∧e=[(0,.pointer (some ⟨bb1,0,none⟩)),(4,.pointer (some ⟨bb2,0,none⟩)),(5,.pointer (some ⟨bb3,0,none⟩)),(6,.int .i64 i9)]∧SH w0 w' [Ch.own S6 (r1.Ay:List Int) [.slice p5 r1.Ay.length k5],Ch.own S7 (x1:List Int) [.slice p6 ln1 k6],Ch.own S8 (x2:List Int) [.slice p7 ln2 k7],Ch.own S9 (x3:List Int) [.slice p8 ln3 k8],Ch.box bb1 [.slice p1 s.code.length k1,.int .i64 i7,.int .i64 i8] 184,Ch.box bb3 [.slice p8 ln3 k8,.slice p7 ln2 k7,.slice p6 ln1 k6,.slice p5 r1.Ay.length k5] 148,Ch.box bb2 [.slice none 0 0,.slice none 0 0,.slice none 0 0,.slice none 0 0] 148,Ch.grp (old w0) (FS F) [fct (s:Tl01Source) [.slice p1 s.code.length k1,.int .i64 s.at_,.int .i64 s.seed],same w0 w F]]) n ⟨_,_,_,_,_,_,_,_,_,_,_,_,_,_,_,_,_,_,hF,rfl,h⟩ rfl ?_)
 rintro m1 e1 w7 ⟨S7,p6,ln1,k6,x1,S8,p7,ln2,k7,x2,S9,p8,ln3,k8,x3,i7,i8,i9,hF,rfl,h⟩
 obtain rfl:=(h.sl 1 rfl).2
 obtain rfl:=(h.sl 2 rfl).2
 obtain rfl:=(h.sl 3 rfl).2
 rcases m1 with _|m1
 ·cases hF
 refine X0 6 rfl (qk rfl hF ?_ ?_)<;>intro hF
 ·refine X1 10 5 h rfl (rA [25] [5] h rfl fun w8 h=>M4 12946203 [0,1,3,4,8,9,11,15,16,18,22,23] 0 0 0 0 (h.pick [5] rfl) rfl (Ao 2 12946207 rfl (zcL h hF (qfw (h.own 3 rfl)) rfl fun r2 w9 S10 p9 k9 h hF=>Ag (h.pick [6] rfl) (Ao 5 12946239 rfl ?_))))
  replace h:=h.pick [5,0,1,2,3,4,6,7,8] rfl
  obtain ⟨o4,hr5,hF⟩:=qe hF
  obtain ⟨i10,i11,i12⟩:=o4
  refine nxC h ((qf (h.frG 8 0 1 rfl rfl rfl)).1) hr5 rfl rfl rfl fun w10 h=>Ag (h.pick [6] rfl) (Ao 6 12946303 rfl (qm qb [.tmp 27] _ ([i10]:List Int) h rfl rfl rfl rfl rfl rfl rfl rfl rfl ⟨rfl,trivial⟩ rfl fun w11 p10 S11 h=>Ag (h.pick [7] rfl) (Ao 7 12946431 rfl ?_)))
  obtain ⟨x4,hx1,hF⟩:=qe hF
  obtain ⟨g1,hx1⟩:=qr hx1
  refine qaf qb 2 h rfl (h.sl 0 rfl).1 (h.sl 0 rfl).2 rfl rfl rfl rfl rfl rfl rfl rfl rfl g1 hx1 rfl fun w12 p11 k10 S12 h=>Ag (h.pick [7] rfl) (Ao 10 12947455 rfl (zcL h hF (qfw (h.own 5 rfl)) rfl fun r3 w13 S13 p12 k11 h hF=>Ag (h.pick [8] rfl) (Ao 12 12951551 rfl ?_)))
  replace h:=h.pick [2,0,1,3,4,5,6,7,8,9,10] rfl
  obtain ⟨o5,hr7,hF⟩:=qe hF
  obtain ⟨i13,i14,i15⟩:=o5
  refine nxC h ((qf (h.frG 10 0 1 rfl rfl rfl)).1) hr7 rfl rfl rfl fun w14 h=>Ag (h.pick [8] rfl) (Ao 13 12959743 rfl (qm qb [.tmp 34] _ ([i13]:List Int) h rfl rfl rfl rfl rfl rfl rfl rfl rfl ⟨rfl,trivial⟩ rfl fun w15 p13 S14 h=>Ag (h.pick [9] rfl) (Ao 14 12976127 rfl ?_)))
  obtain ⟨x5,hx2,hF⟩:=qe hF
  obtain ⟨g2,hx2⟩:=qr hx2
  refine qaf qb 2 h rfl (h.sl 0 rfl).1 (h.sl 0 rfl).2 rfl rfl rfl rfl rfl rfl rfl rfl rfl g2 hx2 rfl fun w16 p14 k12 S15 h=>Ag (h.pick [9] rfl) (Ao 17 13107199 rfl (zcL h hF (qfw (h.own 6 rfl)) rfl fun r4 w17 S16 p15 k13 h hF=>Ag (h.pick [10] rfl) (Ao 19 13631487 rfl ?_)))
  replace h:=h.pick [2,0,1,3,4,5,6,7,8,9,10,11,12] rfl
  obtain ⟨o6,hr9,hF⟩:=qe hF
  obtain ⟨i16,i17,i18⟩:=o6
  refine nxC h ((qf (h.frG 12 0 1 rfl rfl rfl)).1) hr9 rfl rfl rfl fun w18 h=>Ag (h.pick [10] rfl) (Ao 20 14680063 rfl (qm qb [.tmp 41] _ ([i16]:List Int) h rfl rfl rfl rfl rfl rfl rfl rfl rfl ⟨rfl,trivial⟩ rfl fun w19 p16 S17 h=>Ag (h.pick [11] rfl) (Ao 21 16777215 rfl ?_)))
  obtain ⟨x6,hx3,hF⟩:=qe hF
  obtain ⟨g3,hx3⟩:=qr hx3
  refine qaf qb 2 h rfl (h.sl 0 rfl).1 (h.sl 0 rfl).2 rfl rfl rfl rfl rfl rfl rfl rfl rfl g3 hx3 rfl fun w20 p17 k14 S18 h=>Ag (h.pick [11] rfl) (Aw 24 33554431 (fun w' hw=>qat qb [0,1,2,3] [.tmp 29,.tmp 36,.tmp 43,.tmp 45] rfl rfl rfl rfl rfl rfl rfl rfl) (h.pick [11] rfl) rfl ?_)
  refine Ao 25 67108863 rfl (zs 11 h rfl fun w21 h=>qeh (fun hs=>absurd (hs 25 (by decide)) (by decide)) (Ad (X0 6 rfl ?_)))
  replace h:=h.pick [7,2,4,6,1,11,12,13] rfl
  exact rK ⟨_,_,_,_,_,_,_,_,_,_,_,_,_,_,_,_,_,_,hF,rfl,h⟩ rfl
 refine qp rfl ?_
 obtain rfl:=qc hF;replace hF:=hK1
 refine X0 5 rfl ?_
 obtain ⟨o7,hF,hK2⟩:=qe hF
 refine ql (rL (fun m e w'=>∃ (x7:(List Int)) (i19:Int) (i20:Int) (i21:Int),qcA s r1 x3 m x7 i19 i20 i21=some o7∧e=[(0,.pointer (some ⟨bb1,0,none⟩)),(4,.pointer (some ⟨bb2,0,none⟩)),(5,.pointer (some ⟨bb3,0,none⟩)),(8,.int .i64 i21)]∧SH w0 w' [Ch.own S6 (x7:List Int) [.slice p5 r1.Ay.length k5],Ch.own S7 (x1:List Int) [.slice p6 x1.length k6],Ch.own S8 (x2:List Int) [.slice p7 x2.length k7],Ch.own S9 (x3:List Int) [.slice p8 x3.length k8],Ch.box bb1 [.slice p1 s.code.length k1,.int .i64 i19,.int .i64 i20] 184,Ch.box bb3 [.slice p8 x3.length k8,.slice p7 x2.length k7,.slice p6 x1.length k6,.slice p5 r1.Ay.length k5] 148,Ch.box bb2 [.slice none 0 0,.slice none 0 0,.slice none 0 0,.slice none 0 0] 148,Ch.grp (old w0) (FS F) [fct (s:Tl01Source) [.slice p1 s.code.length k1,.int .i64 s.at_,.int .i64 s.seed],same w0 w F]]) n ⟨_,_,_,_,hF,rfl,h⟩ rfl ?_)
 rintro m2 e2 w22 ⟨x7,i19,i20,i21,hF,rfl,h⟩
 rcases m2 with _|m2
 ·cases hF
 refine X1 9 5 h rfl (qk rfl hF ?_ ?_)<;>intro hF
 ·refine zKSB (rA [] [5] h rfl fun w23 h=>M2 127 [0,1,2,3,4,5,6] 0 0 (h.pick [5] rfl) rfl (Ao 7 255 rfl ?_))
  replace h:=h.pick [4,0,1,2,3,5,6,7] rfl
  obtain ⟨o8,hr10,hF⟩:=qe hF
  obtain ⟨i22,i23,i24⟩:=o8
  refine nxC h ((qf (h.frG 7 0 1 rfl rfl rfl)).1) hr10 rfl rfl rfl fun w24 h=>Ag (h.pick [5] rfl) ?_
  obtain ⟨y1,hy1,hF,he1,b1,_,q1,cs3,hp1,hq1,rfl,hc3⟩:=(h.sl 1 rfl).1.ix hF
  refine Ax 8 511 hp1 hq1 ⟨he1.1,qI he1.2.1 (h.sl 1 rfl).2⟩ (h.pick [5] rfl) rfl (Ao 9 1023 rfl (qbE qb 1 0 i22 h rfl hy1 hp1 hq1 rfl hc3 rfl rfl rfl rfl rfl rfl rfl fun w25 h=>Ag (h.pick [5] rfl) (Ad (X0 6 rfl ?_))))
  replace h:=h.pick [1,2,3,4,0,5,6,7] rfl
  exact rK ⟨_,_,_,_,hF,rfl,h⟩ rfl
 refine qp rfl ?_
 obtain rfl:=qc hF;replace hF:=hK2
 refine X1 3 5 h rfl (zs 6 h rfl fun w26 h=>qa5 ?_)
 have hk1:=h
 obtain ⟨S19,h⟩:=h.gather [4,5,6,7] (qjy (⟨x3,x2,x1,x7⟩:qae) h (qC 3 h rfl) (qC 2 h rfl) (qC 1 h rfl) (qC 0 h rfl) (by rfl) (by rfl) (by rfl)) rfl
 obtain rfl:=qc hF
 replace h:=h.pick [0,1,4] rfl
 exact qbx qb [GoT.v qae [.slice p8 x3.length k8,.slice p7 x2.length k7,.slice p6 x1.length k6,.slice p5 r1.Ay.length k5]] ⟨⟨_,_,_,rfl,rfl,hk1.box 6 rfl,rfl⟩,trivial⟩ ⟨_,_,rfl,SH.unfr 1 1 h0 h rfl rfl⟩
end Go.Fw


namespace Go.Fw
open Go Go.Proofs
open Go.RowKit (Below)
set_option maxRecDepth 100000
set_option maxHeartbeats 6400000
variable {n:Nat} {w:World} {cs1 cs2 cs3 cs4 cs5 cs6 cs7 cs8 cs9:List Value}
def qel (s:Tl01Source) (r2:qg):Nat→(List qae)→Int→Int→Int→Option ((List qae) × Int × Int × Int)
 | 0,_,_,_,_=>none
 | n+1,x1,i5,i6,i7 =>
  bif decide (i7<(r2.Ai.length:Int)) then
   (qfD n r2 i7).bind fun r3 =>
   (qgk n (⟨s.code,i5,i6⟩:Tl01Source) (r3.length:Int)).bind fun o=>match o with
    | (r4,i8,i9) =>
     (appS x1 ([r4]:List qae)).bind fun x2 =>
     qel s r2 n x2 i8 i9 (W64 (i7+1))
  else
   some (x1,i5,i6,i7)
def qg3 (n:Nat) (s:Tl01Source) (most:Int) (wild:Bool):Option (qd × Int × Int) :=
 (qip n (⟨s.code,s.at_,s.seed⟩:Tl01Source)).bind fun o=>match o with
  | (r1,i1,i2) =>
   (qid n (⟨s.code,i1,i2⟩:Tl01Source) most wild).bind fun o=>match o with
    | (r2,i3,i4) =>
     (qel s r2 n ([]:List qae) i3 i4 0).bind fun o=>match o with
     | (x1,i5,i6,_) =>
      some ((⟨r1,r2,x1⟩:qd),i5,i6)
theorem qjg {n:Nat} {w0 w:World} {F:List Ch} {s:Tl01Source} {bb1:Nat} {p1:Option Addr} {k1:Nat} {most:Int} {wild:Bool} (h0:SH w0 w (Ch.box bb1 (qan s p1 k1) 184::F)) (ha1:GoT.R w (Fr w0 F) s [.slice p1 s.code.length k1,.int .i64 s.at_,.int .i64 s.seed]) {r:(qd × Int × Int)} (hF:qg3 n s most wild=some r):RetW Tryz.prog 129 [.pointer (some ⟨bb1,0,none⟩),.int .i64 most,.bool wild] w (fun us w'=>∃ (S1:Nat→Prop) (cs1:List Value),us=[GoT.v qd cs1]∧SH w0 w' (Ch.own S1 (r.1:qd) cs1::Ch.box bb1 [.slice p1 s.code.length k1,.int .i64 r.2.1,.int .i64 r.2.2] 184::F)):=by
 have h:=SH.frm1 h0 ha1
 refine qbr Tryz.func129 rfl (m:=38) rfl rfl (zSR (qB qb h rfl rfl rfl fun w1 bb2 h=>X0 4 rfl ?_))
 replace h:=h.pick [1,0,2] rfl
 obtain ⟨o1,hr1,hF⟩:=qe hF
 obtain ⟨r1,i1,i2⟩:=o1
 refine qaV (cB 179 rfl) (qme (s:=(⟨s.code,s.at_,s.seed⟩:Tl01Source)) h (show GoT.R _ _ ((⟨s.code,s.at_,s.seed⟩:Tl01Source):Tl01Source) _ from ⟨[.slice p1 s.code.length k1],[.int .i64 s.at_,.int .i64 s.seed],rfl,⟨_,_,rfl,(qf (h.frG 2 0 1 rfl rfl rfl)).1⟩,⟨[.int .i64 s.at_],[.int .i64 s.seed],rfl,rfl,rfl⟩⟩) hr1) rfl rfl rfl rfl ?_
 rintro w2 us1 ⟨S2,cs2,rfl,h⟩
 obtain ⟨p2,k2,rfl,-⟩:=qbY (h.own 0 rfl)
 replace h:SH _ _ [Ch.own S2 (r1:qq) [.slice p2 r1.Aj.length k2],Ch.box bb1 [.slice p1 s.code.length k1,.int .i64 i1,.int .i64 i2] 184,Ch.box bb2 [.slice none 0 0,.slice none 0 0,.slice none 0 0,.slice none 0 0,.slice none 0 0] 34,Ch.grp (old w0) (FS F) [fct (s:Tl01Source) [.slice p1 s.code.length k1,.int .i64 s.at_,.int .i64 s.seed],same w0 w F]]:=h
 refine qB qb h rfl rfl rfl fun w3 bb3 h=>zs 0 h rfl fun w4 h=>X0 6 rfl ?_
 replace h:=h.pick [2,0,1,3,4] rfl
 obtain ⟨o2,hr2,hF⟩:=qe hF
 obtain ⟨r2,i3,i4⟩:=o2
 refine qaV (cB 180 rfl) (qlW (a_0:=(⟨s.code,i1,i2⟩:Tl01Source)) (a_1:=most) (a_2:=wild) h (show GoT.R _ _ ((⟨s.code,i1,i2⟩:Tl01Source):Tl01Source) _ from ⟨[.slice p1 s.code.length k1],[.int .i64 i1,.int .i64 i2],rfl,⟨_,_,rfl,(qf (h.frG 4 0 1 rfl rfl rfl)).1⟩,⟨[.int .i64 i1],[.int .i64 i2],rfl,rfl,rfl⟩⟩) hr2) rfl rfl rfl rfl ?_
 rintro w5 us2 ⟨S3,cs3,rfl,h⟩
 obtain ⟨p3,k3,p4,k4,p5,k5,rfl,-,-,-⟩:=qaF (h.own 0 rfl)
 replace h:SH _ _ [Ch.own S3 (r2:qg) (qaw r2 p3 p4 p5 k3 k4 k5),Ch.box bb1 [.slice p1 s.code.length k1,.int .i64 i3,.int .i64 i4] 184,Ch.box bb3 [.slice p2 r1.Aj.length k2] 26,Ch.own S2 (r1:qq) [.slice p2 r1.Aj.length k2],Ch.box bb2 [.slice none 0 0,.slice none 0 0,.slice none 0 0,.slice none 0 0,.slice none 0 0] 34,Ch.grp (old w0) (FS F) [fct (s:Tl01Source) [.slice p1 s.code.length k1,.int .i64 s.at_,.int .i64 s.seed],same w0 w F]]:=h
 refine qB qb h rfl rfl rfl fun w6 bb4 h=>zs 0 h rfl fun w7 h=>zNSR (qdV qb [] _ ([]:List qae) [0,1,2,3,4,5,6] h rfl rfl rfl rfl rfl rfl rfl rfl rfl qgr rfl rfl fun w8 p6 S4 h=>X0 7 rfl ?_)
 obtain ⟨o3,hF,hK1⟩:=qe hF
 refine ql (rL (fun m e w'=>∃ (S5:Nat→Prop) (p7:Option Addr) (ln1:Nat) (k6:Nat) (x1:(List qae)) (i5:Int) (i6:Int) (i7:Int),qel s r2 m x1 i5 i6 i7=some o3∧e=[(0,.pointer (some ⟨bb1,0,none⟩)),(6,.pointer (some ⟨bb2,0,none⟩)),(7,.pointer (some ⟨bb3,0,none⟩)),(8,.pointer (some ⟨bb4,0,none⟩)),(9,.slice p7 ln1 k6),(10,.int .i64 i7)]∧SH w0 w' [Ch.own S5 (x1:List qae) [.slice p7 ln1 k6],Ch.box bb4 (qaw r2 p3 p4 p5 k3 k4 k5) 31,Ch.own S3 (r2:qg) (qaw r2 p3 p4 p5 k3 k4 k5),Ch.box bb1 [.slice p1 s.code.length k1,.int .i64 i5,.int .i64 i6] 184,Ch.box bb3 [.slice p2 r1.Aj.length k2] 26,Ch.own S2 (r1:qq) [.slice p2 r1.Aj.length k2],Ch.box bb2 [.slice none 0 0,.slice none 0 0,.slice none 0 0,.slice none 0 0,.slice none 0 0] 34,Ch.grp (old w0) (FS F) [fct (s:Tl01Source) [.slice p1 s.code.length k1,.int .i64 s.at_,.int .i64 s.seed],same w0 w F]]) n ⟨_,_,_,_,_,_,_,_,hF,rfl,h⟩ rfl ?_)
 rintro m1 e1 w9 ⟨S5,p7,ln1,k6,x1,i5,i6,i7,hF,rfl,h⟩
 obtain rfl:=(h.sl 0 rfl).2
 rcases m1 with _|m1
 ·cases hF
 refine X1 9 1 h rfl (qk rfl hF ?_ ?_)<;>intro hF
 ·refine X1 8 1 h rfl (zcL h hF (qhs (h.own 2 rfl)) rfl fun r3 w10 S6 p8 k7 h hF=>zp1 rfl ?_)
  replace h:=h.pick [4,0,1,2,3,5,6,7,8] rfl
  obtain ⟨o4,hr4,hF⟩:=qe hF
  obtain ⟨r4,i8,i9⟩:=o4
  refine qaV (cB 181 rfl) (qkv (s:=(⟨s.code,i5,i6⟩:Tl01Source)) (sinks:=(r3.length:Int)) h (show GoT.R _ _ ((⟨s.code,i5,i6⟩:Tl01Source):Tl01Source) _ from ⟨[.slice p1 s.code.length k1],[.int .i64 i5,.int .i64 i6],rfl,⟨_,_,rfl,(qf (h.frG 8 0 1 rfl rfl rfl)).1⟩,⟨[.int .i64 i5],[.int .i64 i6],rfl,rfl,rfl⟩⟩) hr4) rfl rfl rfl rfl ?_
  rintro w11 us3 ⟨S7,cs4,rfl,h⟩
  obtain ⟨p9,k8,p10,k9,p11,k10,p12,k11,rfl,-,-,-,-⟩:=qcm (h.own 0 rfl)
  replace h:SH _ _ [Ch.own S7 (r4:qae) (qgH r4 p9 p10 p11 p12 k8 k9 k10 k11),Ch.box bb1 [.slice p1 s.code.length k1,.int .i64 i8,.int .i64 i9] 184,Ch.own S6 (r3:List Int) [.slice p8 r3.length k7],Ch.own S5 (x1:List qae) [.slice p7 x1.length k6],Ch.box bb4 (qaw r2 p3 p4 p5 k3 k4 k5) 31,Ch.own S3 (r2:qg) (qaw r2 p3 p4 p5 k3 k4 k5),Ch.box bb3 [.slice p2 r1.Aj.length k2] 26,Ch.own S2 (r1:qq) [.slice p2 r1.Aj.length k2],Ch.box bb2 [.slice none 0 0,.slice none 0 0,.slice none 0 0,.slice none 0 0,.slice none 0 0] 34,Ch.grp (old w0) (FS F) [fct (s:Tl01Source) [.slice p1 s.code.length k1,.int .i64 s.at_,.int .i64 s.seed],same w0 w F]]:=h
  refine qdV qb [.tmp 31] _ ([r4]:List qae) [1,2,3,4,5,6,7,8,9] h rfl rfl rfl rfl rfl rfl rfl rfl rfl (qcn (qC 0 h rfl) qgr rfl) rfl rfl fun w12 p13 S8 h=>?_
  obtain ⟨x2,hx1,hF⟩:=qe hF
  obtain ⟨g1,hx1⟩:=qr hx1
  replace h:=h.pick [0,3,1,2,4,5,6,7,8,9] rfl
  refine qkV qb h rfl rfl rfl rfl rfl rfl rfl rfl rfl g1 hx1 rfl fun w13 p14 k12 S9 h=>X0 8 rfl ?_
  replace h:=h.pick [0,3,4,1,5,6,7,8] rfl
  exact rK ⟨_,_,_,_,_,_,_,_,hF,rfl,h⟩ rfl
 refine qp rfl ?_
 obtain rfl:=qc hF;replace hF:=hK1
 refine X2 5 4 1 h rfl (r_v (qat qb [0,1,2] [.tmp 34,.tmp 35,.tmp 36] rfl rfl rfl rfl rfl rfl rfl rfl) rfl (zs 6 h rfl fun w14 h=>qa5 ?_))
 have hk1:=h
 obtain ⟨S10,h⟩:=h.gather [1,3,4,6,7] (qrs (⟨r1,r2,x1⟩:qd) h (qC 5 h rfl) (qC 2 h rfl) (qC 0 h rfl) (by rfl) (by rfl)) rfl
 obtain rfl:=qc hF
 replace h:=h.pick [0,2,5] rfl
 exact qbx qb [GoT.v qd [.slice p2 r1.Aj.length k2,.slice p3 r2.Ab.length k3,.slice p4 r2.Ai.length k4,.slice p5 r2.Ac.length k5,.slice p7 x1.length k6]] ⟨⟨_,_,_,rfl,rfl,hk1.box 6 rfl,rfl⟩,trivial⟩ ⟨_,_,rfl,SH.unfr 1 1 h0 h rfl rfl⟩
def qgJ (n:Nat) (a_0:Tl01Source):Option (qd × Int × Int) :=
 (qn n (⟨a_0.code,a_0.at_,a_0.seed⟩:Tl01Source) 3).bind fun o=>match o with
  | (i1,i2,i3) =>
   (qg3 n (⟨a_0.code,i2,i3⟩:Tl01Source) 6 (i1==0)).bind fun o=>match o with
    | (r1,i4,i5) =>
     (qn n (⟨a_0.code,i4,i5⟩:Tl01Source) (r1.Ah.length:Int)).bind fun o=>match o with
      | (i6,i7,i8) =>
       (qn n (⟨a_0.code,i7,i8⟩:Tl01Source) 20).bind fun o=>match o with
        | (i9,i10,i11) =>
         bif (i9==0) then
          (subS r1.Ah 1 (r1.Ah.length:Int)).bind fun x1 =>
          some ((⟨(⟨r1.Af.Aj⟩:qq),(⟨r1.Aa.Ab,r1.Aa.Ai,r1.Aa.Ac⟩:qg),x1⟩:qd),i10,i11)
         else
          bif (i9==1) then
           (idx r1.Ah i6).bind fun y1 =>
           (qfo n y1.Ay).bind fun r2 =>
           (appS r2 ([0]:List Int)).bind fun x2 =>
           some ((⟨r1.Af,r1.Aa,(setS r1.Ah i6 (⟨y1.Ak,y1.Bh,y1.Bd,x2⟩:qae))⟩:qd),i10,i11)
          else
           bif (i9==2) then
            (idx r1.Ah i6).bind fun y2 =>
            (idx y2.Bh 0).bind fun _ =>
            some ((⟨r1.Af,r1.Aa,(setS r1.Ah i6 (⟨y2.Ak,(setS y2.Bh 0 1),y2.Bd,y2.Ay⟩:qae))⟩:qd),i10,i11)
           else
            bif (i9==3) then
             (idx r1.Ah i6).bind fun y4 =>
             (qn n (⟨a_0.code,i10,i11⟩:Tl01Source) 3).bind fun o=>match o with
              | (i12,i13,i14) =>
               (idx ([(-1),500,501]:List Int) i12).bind fun y5 =>
               (idx y4.Bd 0).bind fun _ =>
               some ((⟨r1.Af,r1.Aa,(setS r1.Ah i6 (⟨y4.Ak,y4.Bh,(setS y4.Bd 0 y5),y4.Ay⟩:qae))⟩:qd),i13,i14)
            else
             bif (i9==4) then
              (idx r1.Ah i6).bind fun y7 =>
              (qn n (⟨a_0.code,i10,i11⟩:Tl01Source) 5).bind fun o=>match o with
               | (i15,i16,i17) =>
                (idx y7.Ak (W64 ((y7.Ak.length:Int)-1))).bind fun _ =>
                some ((⟨r1.Af,r1.Aa,(setS r1.Ah i6 (⟨(setS y7.Ak (W64 ((y7.Ak.length:Int)-1)) (W64 (i15-1))),y7.Bh,y7.Bd,y7.Ay⟩:qae))⟩:qd),i16,i17)
             else
              bif (i9==5) then
               (idx r1.Aa.Ac 0).bind fun y9 =>
               some ((⟨r1.Af,(⟨r1.Aa.Ab,r1.Aa.Ai,(setS r1.Aa.Ac 0 ({ y9 with Bl:=3 }))⟩:qg),r1.Ah⟩:qd),i10,i11)
              else
               some (r1,i10,i11)
theorem qk1 {n:Nat} {w0 w:World} {F:List Ch} {a_0:Tl01Source} {bb1:Nat} {p1:Option Addr} {k1:Nat} (h0:SH w0 w (Ch.box bb1 (qan a_0 p1 k1) 184::F)) (ha1:GoT.R w (Fr w0 F) a_0 [.slice p1 a_0.code.length k1,.int .i64 a_0.at_,.int .i64 a_0.seed]) {r:(qd × Int × Int)} (hF:qgJ n a_0=some r):RetW Tryz.prog 128 [.pointer (some ⟨bb1,0,none⟩)] w (fun us w'=>∃ (S1:Nat→Prop) (cs1:List Value),us=[GoT.v qd cs1]∧SH w0 w' (Ch.grp (fun _=>False) S1 [fct (r.1:qd) cs1]::Ch.box bb1 [.slice p1 a_0.code.length k1,.int .i64 r.2.1,.int .i64 r.2.2] 184::F)):=by
 have h:=SH.frm1 h0 ha1
 refine qbr Tryz.func128 rfl (m:=90) rfl rfl (zSR (qB qb h rfl rfl rfl fun w1 bb2 h=>X0 5 rfl ?_))
 replace h:=h.pick [1,0,2] rfl
 obtain ⟨o1,hr1,hF⟩:=qe hF
 obtain ⟨i1,i2,i3⟩:=o1
 refine nxC h ((qf (h.frG 2 0 1 rfl rfl rfl)).1) hr1 rfl rfl rfl fun w2 h=>zp1 rfl ?_
 obtain ⟨o2,hr2,hF⟩:=qe hF
 obtain ⟨r1,i4,i5⟩:=o2
 refine qaV (cB 129 rfl) (qjg (s:=(⟨a_0.code,i2,i3⟩:Tl01Source)) (most:=6) (wild:=(i1==0)) h (show GoT.R _ _ ((⟨a_0.code,i2,i3⟩:Tl01Source):Tl01Source) _ from ⟨[.slice p1 a_0.code.length k1],[.int .i64 i2,.int .i64 i3],rfl,⟨_,_,rfl,(qf (h.frG 2 0 1 rfl rfl rfl)).1⟩,⟨[.int .i64 i2],[.int .i64 i3],rfl,rfl,rfl⟩⟩) hr2) rfl rfl rfl rfl ?_
 rintro w3 us2 ⟨S2,cs2,rfl,h⟩
 obtain ⟨p2,k2,p3,k3,p4,k4,p5,k5,p6,k6,rfl,-,-,-,-,-⟩:=qD (h.own 0 rfl)
 replace h:SH _ _ [Ch.own S2 (r1:qd) (qA r1 p2 p3 p4 p5 p6 k2 k3 k4 k5 k6),Ch.box bb1 [.slice p1 a_0.code.length k1,.int .i64 i4,.int .i64 i5] 184,Ch.box bb2 [.slice none 0 0,.slice none 0 0,.slice none 0 0,.slice none 0 0,.slice none 0 0] 34,Ch.grp (old w0) (FS F) [fct (a_0:Tl01Source) [.slice p1 a_0.code.length k1,.int .i64 a_0.at_,.int .i64 a_0.seed],same w0 w F]]:=h
 refine qB qb h rfl rfl rfl fun w4 bb3 h=>zs 0 h rfl fun w5 h=>X1 7 0 h rfl ?_
 replace h:=h.pick [2,0,1,3,4] rfl
 obtain ⟨o3,hr3,hF⟩:=qe hF
 obtain ⟨i6,i7,i8⟩:=o3
 refine nxC h ((qf (h.frG 4 0 1 rfl rfl rfl)).1) hr3 rfl rfl rfl fun w6 h=>X0 6 rfl ?_
 obtain ⟨o4,hr4,hF⟩:=qe hF
 obtain ⟨i9,i10,i11⟩:=o4
 refine nxC h ((qf (h.frG 4 0 1 rfl rfl rfl)).1) hr4 rfl rfl rfl fun w7 h=>X0 7 rfl (qk rfl hF ?_ ?_)<;>intro hF
 ·refine X1 3 1 h rfl ?_
  obtain ⟨x1,hx1,hF⟩:=qe hF
  obtain ⟨p7,k7,hp1,hk1,hl1,g1⟩:=qos (qgL (h.own 2 rfl)).2.2.2.2.1 hx1
  refine r_v (qdb qb rfl rfl rfl (qoy g1 (qgL (h.own 2 rfl)).2.2.2.2.2) hp1 hk1 hl1 rfl rfl rfl rfl) rfl (zp1 rfl (zs 1 h rfl fun w8 h=>X1 5 1 h rfl (zs 3 h rfl fun w9 h=>qa5 ?_)))
  have hk2:=h
  replace h:=h.frzI 2 rfl
  replace h:=h.grpAdd 2 rfl (x:=((⟨(⟨r1.Af.Aj⟩:qq),(⟨r1.Aa.Ab,r1.Aa.Ai,r1.Aa.Ac⟩:qg),x1⟩:qd):qd)) (show GoT.R _ _ ((⟨(⟨r1.Af.Aj⟩:qq),(⟨r1.Aa.Ab,r1.Aa.Ai,r1.Aa.Ac⟩:qg),x1⟩:qd):qd) _ from ⟨[.slice p2 r1.Af.Aj.length k2],[.slice p3 r1.Aa.Ab.length k3,.slice p4 r1.Aa.Ai.length k4,.slice p5 r1.Aa.Ac.length k5,.slice p7 x1.length k7],rfl,⟨_,_,rfl,(qgL (h.grpS 2 0 rfl rfl)).1.1⟩,⟨[.slice p3 r1.Aa.Ab.length k3,.slice p4 r1.Aa.Ai.length k4,.slice p5 r1.Aa.Ac.length k5],[.slice p7 x1.length k7],rfl,⟨[.slice p3 r1.Aa.Ab.length k3],[.slice p4 r1.Aa.Ai.length k4,.slice p5 r1.Aa.Ac.length k5],rfl,⟨_,_,rfl,(qgL (h.grpS 2 0 rfl rfl)).2.1.1⟩,⟨[.slice p4 r1.Aa.Ai.length k4],[.slice p5 r1.Aa.Ac.length k5],rfl,⟨_,_,rfl,(qgL (h.grpS 2 0 rfl rfl)).2.2.1.1⟩,⟨_,_,rfl,(qgL (h.grpS 2 0 rfl rfl)).2.2.2.1.1⟩⟩⟩,⟨_,_,rfl,(qoH (qgL (h.grpS 2 0 rfl rfl)).2.2.2.2.1 hx1 hp1 hk1)⟩⟩⟩)
  replace h:=h.grpKeep [0] 2 rfl
  obtain rfl:=qc hF
  replace h:=h.pick [2,0,4] rfl
  exact qbx qb [GoT.v qd [.slice p2 r1.Af.Aj.length k2,.slice p3 r1.Aa.Ab.length k3,.slice p4 r1.Aa.Ai.length k4,.slice p5 r1.Aa.Ac.length k5,.slice p7 x1.length k7]] ⟨⟨_,_,_,rfl,rfl,hk2.box 3 rfl,rfl⟩,trivial⟩ ⟨_,_,rfl,SH.unfr 1 1 h0 h rfl rfl⟩
 refine X0 5 rfl (qk rfl hF ?_ ?_)<;>intro hF
 ·replace h:=h.pick [2,0,1,3,4] rfl
  obtain ⟨S3,S4,S5,h⟩:=qgv h
  obtain ⟨y1,hy1,hF⟩:=qe hF
  have he1:=qax hy1
  obtain ⟨S6,S7,cs3,h⟩:=h.take hy1
  obtain ⟨p8,k8,p9,k9,p10,k10,p11,k11,rfl,-,-,-,-⟩:=qcm (h.own 0 rfl)
  obtain ⟨S8,S9,S10,S11,h⟩:=qhY h
  refine rA [14] [4,8] h rfl fun w10 h=>M2 63 [0,1,2,3,4,5] 1 1 (h.pick [4,8] rfl) rfl ?_
  obtain ⟨b1,hp2,-,-,hl3⟩:=h.holeAt 4 rfl
  obtain ⟨q1,hq1⟩:∃ q,q=0+(i6).toNat*GoT.k qae:=⟨_,rfl⟩
  refine Ax 6 127 hp2 hq1 ⟨he1.1,qI he1.2.1 hl3⟩ (h.pick [4,8] rfl) rfl (M0 255 [7] (h.pick [4,8] rfl) rfl (Aw 8 511 (fun w' hw=>qfk qb (qfr hw 0 rfl hp2 hq1) (j:=3) rfl rfl rfl) (h.pick [4,8] rfl) rfl ?_))
  obtain ⟨r2,hr5,hF⟩:=qe hF
  obtain ⟨x2,hx2,hF⟩:=qe hF
  refine qmM (fun e w'=>∃ (S22:Nat→Prop) (p22:Option Addr) (k19:Nat),e=[(2,.pointer (some ⟨bb2,0,none⟩)),(3,.pointer (some ⟨bb3,0,none⟩))]∧SH w0 w' [Ch.own S22 (x2:List Int) [.slice p22 x2.length k19],Ch.own S10 (y1.Bd:List Int) [.slice p10 y1.Bd.length k10],Ch.own S9 (y1.Bh:List Int) [.slice p9 y1.Bh.length k9],Ch.own S8 (y1.Ak:List Int) [.slice p8 y1.Ak.length k8],Ch.hole S7 (r1.Ah:List qae) p6 r1.Ah.length k6 (i6).toNat [.slice p8 y1.Ak.length k8,.slice p9 y1.Bh.length k9,.slice p10 y1.Bd.length k10,.slice p22 x2.length k19],Ch.own S4 (r1.Aa:qg) (qaw r1.Aa p3 p4 p5 k3 k4 k5),Ch.own S3 (r1.Af:qq) [.slice p2 r1.Af.Aj.length k2],Ch.box bb1 [.slice p1 a_0.code.length k1,.int .i64 i10,.int .i64 i11] 184,Ch.box bb3 (qA r1 p2 p3 p4 p5 p6 k2 k3 k4 k5 k6) 34,Ch.box bb2 [.slice none 0 0,.slice none 0 0,.slice none 0 0,.slice none 0 0,.slice none 0 0] 34,Ch.grp (old w0) (FS F) [fct (a_0:Tl01Source) [.slice p1 a_0.code.length k1,.int .i64 a_0.at_,.int .i64 a_0.seed],same w0 w F]]) 0 (bits 15 32767) ?_ ?_
  ·intro K
   refine At 9 10 1023 1535 rfl ?_ ?_
   ·refine qlz r2 h (cB 178 rfl) (qfw (h.own 0 rfl) hr5) rfl rfl rfl rfl fun w20 S19 p19 k17 h=>Ag (h.pick [5,9] rfl) (Ao 10 2047 rfl (qm qb [.const (.int .i64 (0))] _ ([0]:List Int) h rfl rfl rfl rfl rfl rfl rfl rfl rfl ⟨rfl,trivial⟩ rfl fun w21 p20 S20 h=>Ag (h.pick [6,10] rfl) (Ao 11 4095 rfl ?_)))
    obtain ⟨g4,hx2⟩:=qr hx2
    refine qaf qb 1 h rfl (h.sl 0 rfl).1 (h.sl 0 rfl).2 rfl rfl rfl rfl rfl rfl rfl rfl rfl g4 hx2 rfl fun w22 p21 k18 S21 h=>Ag (h.pick [6,10] rfl) (Ao 12 8191 rfl ?_)
    obtain ⟨b4,hp5,-,-,hl9⟩:=h.holeAt 6 rfl
    obtain ⟨q4,hq4⟩:∃ q,q=0+(i6).toNat*GoT.k qae:=⟨_,rfl⟩
    refine zx hp5 hq4 ⟨he1.1,qI he1.2.1 hl9⟩ rfl (G0 16383 [13] (h.pick [6,10] rfl) rfl (Ao 14 32767 rfl (qjb qb 6 3 h rfl hp5 hq4 rfl rfl rfl rfl rfl rfl fun w23 h=>qeh (fun hs=>absurd (hs 14 (by decide)) (by decide)) ?_)))
    replace h:=h.pick [1,3,4,5,6,7,8,9,10,11,12] rfl
    exact qmm [(2,_),(3,_)] ⟨rfl,rfl,trivial⟩ (K _ _ ⟨_,_,_,rfl,h⟩)
   refine qm qb [.const (.int .i64 (0))] _ ([0]:List Int) h rfl rfl rfl rfl rfl rfl rfl rfl rfl ⟨rfl,trivial⟩ rfl fun w20 p19 S19 h=>Ag (h.pick [5,9] rfl) (Ao 9 2047 rfl (qlz r2 h (cB 178 rfl) (qfw (h.own 1 rfl) hr5) rfl rfl rfl rfl fun w21 S20 p20 k17 h=>Ag (h.pick [6,10] rfl) (Ao 11 4095 rfl ?_)))
   obtain ⟨g4,hx2⟩:=qr hx2
   refine qaf qb 0 h rfl (h.sl 1 rfl).1 (h.sl 1 rfl).2 rfl rfl rfl rfl rfl rfl rfl rfl rfl g4 hx2 rfl fun w22 p21 k18 S21 h=>Ag (h.pick [6,10] rfl) (Ao 12 8191 rfl ?_)
   obtain ⟨b4,hp5,-,-,hl9⟩:=h.holeAt 6 rfl
   obtain ⟨q4,hq4⟩:∃ q,q=0+(i6).toNat*GoT.k qae:=⟨_,rfl⟩
   refine zx hp5 hq4 ⟨he1.1,qI he1.2.1 hl9⟩ rfl (G0 16383 [13] (h.pick [6,10] rfl) rfl (Ao 14 32767 rfl (qjb qb 6 3 h rfl hp5 hq4 rfl rfl rfl rfl rfl rfl fun w23 h=>?_)))
   replace h:SH _ _ [Ch.own S21 (x2:List Int) [.slice p21 x2.length k18],Ch.own S19 (([0]:List Int):List Int) [.slice p19 1 1],Ch.own S11 (y1.Ay:List Int) [.slice p11 y1.Ay.length k11],Ch.own S10 (y1.Bd:List Int) [.slice p10 y1.Bd.length k10],Ch.own S9 (y1.Bh:List Int) [.slice p9 y1.Bh.length k9],Ch.own S8 (y1.Ak:List Int) [.slice p8 y1.Ak.length k8],Ch.hole S7 (r1.Ah:List qae) p6 r1.Ah.length k6 (i6).toNat [.slice p8 y1.Ak.length k8,.slice p9 y1.Bh.length k9,.slice p10 y1.Bd.length k10,.slice p21 x2.length k18],Ch.own S4 (r1.Aa:qg) (qaw r1.Aa p3 p4 p5 k3 k4 k5),Ch.own S3 (r1.Af:qq) [.slice p2 r1.Af.Aj.length k2],Ch.box bb1 [.slice p1 a_0.code.length k1,.int .i64 i10,.int .i64 i11] 184,Ch.box bb3 (qA r1 p2 p3 p4 p5 p6 k2 k3 k4 k5 k6) 34,Ch.box bb2 [.slice none 0 0,.slice none 0 0,.slice none 0 0,.slice none 0 0,.slice none 0 0] 34,Ch.grp (old w0) (FS F) [fct (a_0:Tl01Source) [.slice p1 a_0.code.length k1,.int .i64 a_0.at_,.int .i64 a_0.seed],same w0 w F]]:=h
   refine qeh (fun hs=>absurd (hs 14 (by decide)) (by decide)) ?_
   replace h:=h.pick [0,3,4,5,6,7,8,9,10,11,12] rfl
   exact qmm [(2,_),(3,_)] ⟨rfl,rfl,trivial⟩ (K _ _ ⟨_,_,_,rfl,h⟩)
  rintro e2 w24 ⟨S22,p22,k19,rfl,h⟩
  refine Ad (X1 4 8 h rfl (zs 9 h rfl fun w25 h=>qa5 ?_))
  have hk3:=h
  obtain ⟨S23,h⟩:=h.gather [4,5,6,7,8,9,10] (qjy (⟨y1.Ak,y1.Bh,y1.Bd,x2⟩:qae) h (qC 3 h rfl) (qC 2 h rfl) (qC 1 h rfl) (qC 0 h rfl) (by rfl) (by rfl) (by rfl)) rfl
  replace h:=h.put
  obtain ⟨S24,h⟩:=qjV (S:=_) h
  replace h:=h.frzI 2 rfl
  replace h:=h.frzI 1 rfl
  replace h:=h.frzI 0 rfl
  replace h:=h.pick [2,1,0,3,4,5,6] rfl
  replace h:=SH.merge h
  replace h:=SH.merge h
  replace h:=h.grpAdd 0 rfl (x:=((⟨r1.Af,r1.Aa,(setS r1.Ah i6 (⟨y1.Ak,y1.Bh,y1.Bd,x2⟩:qae))⟩:qd):qd)) (show GoT.R _ _ ((⟨(⟨r1.Af.Aj⟩:qq),(⟨r1.Aa.Ab,r1.Aa.Ai,r1.Aa.Ac⟩:qg),(setS r1.Ah i6 (⟨y1.Ak,y1.Bh,y1.Bd,x2⟩:qae))⟩:qd):qd) _ from ⟨[.slice p2 r1.Af.Aj.length k2],[.slice p3 r1.Aa.Ab.length k3,.slice p4 r1.Aa.Ai.length k4,.slice p5 r1.Aa.Ac.length k5,.slice p6 r1.Ah.length k6],rfl,⟨_,_,rfl,(qhc (h.grpS 0 0 rfl rfl)).1⟩,⟨[.slice p3 r1.Aa.Ab.length k3,.slice p4 r1.Aa.Ai.length k4,.slice p5 r1.Aa.Ac.length k5],[.slice p6 r1.Ah.length k6],rfl,⟨[.slice p3 r1.Aa.Ab.length k3],[.slice p4 r1.Aa.Ai.length k4,.slice p5 r1.Aa.Ac.length k5],rfl,⟨_,_,rfl,(qcG (h.grpS 0 1 rfl rfl)).1.1⟩,⟨[.slice p4 r1.Aa.Ai.length k4],[.slice p5 r1.Aa.Ac.length k5],rfl,⟨_,_,rfl,(qcG (h.grpS 0 1 rfl rfl)).2.1.1⟩,⟨_,_,rfl,(qcG (h.grpS 0 1 rfl rfl)).2.2.1⟩⟩⟩,(h.grpS 0 2 rfl rfl)⟩⟩)
  replace h:=h.grpKeep [0] 0 rfl
  obtain rfl:=qc hF
  replace h:=h.pick [0,1,4] rfl
  exact qbx qb [GoT.v qd (qA r1 p2 p3 p4 p5 p6 k2 k3 k4 k5 k6)] ⟨⟨_,_,_,rfl,rfl,hk3.box 9 rfl,rfl⟩,trivial⟩ ⟨_,_,rfl,SH.unfr 1 1 h0 h rfl rfl⟩
 refine X0 5 rfl (qk rfl hF ?_ ?_)<;>intro hF
 ·refine X1 4 1 h rfl ?_
  replace h:=h.pick [2,0,1,3,4] rfl
  obtain ⟨S25,S26,S27,h⟩:=qgv h
  obtain ⟨y2,hy2,hF⟩:=qe hF
  have he2:=qax hy2
  obtain ⟨S28,S29,cs4,h⟩:=h.take hy2
  obtain ⟨p23,k20,p24,k21,p25,k22,p26,k23,rfl,-,-,-,-⟩:=qcm (h.own 0 rfl)
  obtain ⟨S30,S31,S32,S33,h⟩:=qhY h
  obtain ⟨b5,hp6,-,-,hl11⟩:=h.holeAt 4 rfl
  obtain ⟨q5,hq5⟩:∃ q,q=0+(i6).toNat*GoT.k qae:=⟨_,rfl⟩
  refine zx hp6 hq5 ⟨he2.1,qI he2.2.1 hl11⟩ rfl (zp1 rfl (zc 1 (qfr h 4 rfl hp6 hq5) rfl ?_))
  obtain ⟨y3,hy3,hF,he3,b6,_,q6,cs5,hp7,hq6,rfl,hc5⟩:=(h.sl 2 rfl).1.ix hF
  refine zx hp7 hq6 ⟨he3.1,qI he3.2.1 (h.sl 2 rfl).2⟩ rfl (qbE qb 2 0 1 h rfl hy3 hp7 hq6 rfl hc5 rfl rfl rfl rfl rfl rfl rfl fun w26 h=>X1 5 8 h rfl (zs 9 h rfl fun w27 h=>qa5 ?_))
  have hk4:=h
  obtain ⟨S34,h⟩:=h.gather [4,5,6,7,8,9,10] (qjy (⟨y2.Ak,(setS y2.Bh 0 1),y2.Bd,y2.Ay⟩:qae) h (qC 3 h rfl) (qC 2 h rfl) (qC 1 h rfl) (qC 0 h rfl) (by rfl) (by rfl) (by rfl)) rfl
  replace h:=h.put
  obtain ⟨S35,h⟩:=qjV (S:=_) h
  replace h:=h.frzI 2 rfl
  replace h:=h.frzI 1 rfl
  replace h:=h.frzI 0 rfl
  replace h:=h.pick [2,1,0,3,4,5,6] rfl
  replace h:=SH.merge h
  replace h:=SH.merge h
  replace h:=h.grpAdd 0 rfl (x:=((⟨r1.Af,r1.Aa,(setS r1.Ah i6 (⟨y2.Ak,(setS y2.Bh 0 1),y2.Bd,y2.Ay⟩:qae))⟩:qd):qd)) (show GoT.R _ _ ((⟨(⟨r1.Af.Aj⟩:qq),(⟨r1.Aa.Ab,r1.Aa.Ai,r1.Aa.Ac⟩:qg),(setS r1.Ah i6 (⟨y2.Ak,(setS y2.Bh 0 1),y2.Bd,y2.Ay⟩:qae))⟩:qd):qd) _ from ⟨[.slice p2 r1.Af.Aj.length k2],[.slice p3 r1.Aa.Ab.length k3,.slice p4 r1.Aa.Ai.length k4,.slice p5 r1.Aa.Ac.length k5,.slice p6 r1.Ah.length k6],rfl,⟨_,_,rfl,(qhc (h.grpS 0 0 rfl rfl)).1⟩,⟨[.slice p3 r1.Aa.Ab.length k3,.slice p4 r1.Aa.Ai.length k4,.slice p5 r1.Aa.Ac.length k5],[.slice p6 r1.Ah.length k6],rfl,⟨[.slice p3 r1.Aa.Ab.length k3],[.slice p4 r1.Aa.Ai.length k4,.slice p5 r1.Aa.Ac.length k5],rfl,⟨_,_,rfl,(qcG (h.grpS 0 1 rfl rfl)).1.1⟩,⟨[.slice p4 r1.Aa.Ai.length k4],[.slice p5 r1.Aa.Ac.length k5],rfl,⟨_,_,rfl,(qcG (h.grpS 0 1 rfl rfl)).2.1.1⟩,⟨_,_,rfl,(qcG (h.grpS 0 1 rfl rfl)).2.2.1⟩⟩⟩,(h.grpS 0 2 rfl rfl)⟩⟩)
  replace h:=h.grpKeep [0] 0 rfl
  obtain rfl:=qc hF
  replace h:=h.pick [0,1,4] rfl
  exact qbx qb [GoT.v qd (qA r1 p2 p3 p4 p5 p6 k2 k3 k4 k5 k6)] ⟨⟨_,_,_,rfl,rfl,hk4.box 9 rfl,rfl⟩,trivial⟩ ⟨_,_,rfl,SH.unfr 1 1 h0 h rfl rfl⟩
 refine X0 5 rfl (qk rfl hF ?_ ?_)<;>intro hF
 ·replace h:=h.pick [2,0,1,3,4] rfl
  obtain ⟨S36,S37,S38,h⟩:=qgv h
  obtain ⟨y4,hy4,hF⟩:=qe hF
  have he4:=qax hy4
  obtain ⟨S39,S40,cs6,h⟩:=h.take hy4
  obtain ⟨p27,k24,p28,k25,p29,k26,p30,k27,rfl,-,-,-,-⟩:=qcm (h.own 0 rfl)
  obtain ⟨S41,S42,S43,S44,h⟩:=qhY h
  refine rA [] [4,8] h rfl fun w28 h=>M1 7 [0,1,2] 1 (h.pick [4,8] rfl) rfl ?_
  obtain ⟨b7,hp8,-,-,hl13⟩:=h.holeAt 4 rfl
  obtain ⟨q7,hq7⟩:∃ q,q=0+(i6).toNat*GoT.k qae:=⟨_,rfl⟩
  refine Ax 3 15 hp8 hq7 ⟨he4.1,qI he4.2.1 hl13⟩ (h.pick [4,8] rfl) rfl (M0 31 [4] (h.pick [4,8] rfl) rfl (Aw 5 63 (fun w' hw=>qfk qb (qfr hw 0 rfl hp8 hq7) (j:=2) rfl rfl rfl) (h.pick [4,8] rfl) rfl ?_))
  refine M0 191 [7] (h.pick [4,8] rfl) rfl ?_
  obtain ⟨o5,hr9,hF⟩:=qe hF
  obtain ⟨i12,i13,i14⟩:=o5
  obtain ⟨y5,hy5,hF⟩:=qe hF
  obtain ⟨y6,hy6,hF⟩:=qe hF
  refine qmM (fun e w'=>e=[(2,.pointer (some ⟨bb2,0,none⟩)),(3,.pointer (some ⟨bb3,0,none⟩))]∧SH w0 w' [Ch.box bb1 [.slice p1 a_0.code.length k1,.int .i64 i13,.int .i64 i14] 184,Ch.own S44 (y4.Ay:List Int) [.slice p30 y4.Ay.length k27],Ch.own S43 ((setS y4.Bd 0 y5):List Int) [.slice p29 y4.Bd.length k26],Ch.own S42 (y4.Bh:List Int) [.slice p28 y4.Bh.length k25],Ch.own S41 (y4.Ak:List Int) [.slice p27 y4.Ak.length k24],Ch.hole S40 (r1.Ah:List qae) p6 r1.Ah.length k6 (i6).toNat [.slice p27 y4.Ak.length k24,.slice p28 y4.Bh.length k25,.slice p29 y4.Bd.length k26,.slice p30 y4.Ay.length k27],Ch.own S37 (r1.Aa:qg) (qaw r1.Aa p3 p4 p5 k3 k4 k5),Ch.own S36 (r1.Af:qq) [.slice p2 r1.Af.Aj.length k2],Ch.box bb3 (qA r1 p2 p3 p4 p5 p6 k2 k3 k4 k5 k6) 34,Ch.box bb2 [.slice none 0 0,.slice none 0 0,.slice none 0 0,.slice none 0 0,.slice none 0 0] 34,Ch.grp (old w0) (FS F) [fct (a_0:Tl01Source) [.slice p1 a_0.code.length k1,.int .i64 a_0.at_,.int .i64 a_0.seed],same w0 w F]]) 0 (bits 13 8191) ?_ ?_
  ·intro K
   refine At 6 8 255 447 rfl ?_ ?_
   ·refine qm qb [.const (.int .i64 (-1)),.const (.int .i64 (500)),.const (.int .i64 (501))] _ ([(-1),500,501]:List Int) h rfl rfl rfl rfl rfl rfl rfl rfl rfl ⟨rfl,rfl,rfl,trivial⟩ rfl fun w36 p33 S47 h=>Ag (h.pick [5,9] rfl) (Ao 8 511 rfl ?_)
    replace h:=h.pick [8,0,1,2,3,4,5,6,7,9,10,11] rfl
    refine nxC h ((qf (h.frG 11 0 1 rfl rfl rfl)).1) hr9 rfl rfl rfl fun w37 h=>Ag (h.pick [6,9] rfl) ?_
    have he9:=qax hy5
    obtain ⟨b12,o_7,q12,cs11,hp13,hq12,-,hr14,hc11⟩:=(h.sl 1 rfl).1.at hy5
    obtain rfl:=hr14
    refine Ax 9 1023 hp13 hq12 ⟨he9.1,qI he9.2.1 (h.sl 1 rfl).2⟩ (h.pick [6,9] rfl) rfl (Ao 10 2047 rfl (r_v (qfk qb (qbo (w1:=w) (S1:=fun _=>False) h 1 rfl hy5 hp13 hq12 rfl) (j:=0) rfl rfl rfl) rfl (Ag (h.pick [6,9] rfl) ?_)))
    have he10:=qax hy6
    obtain ⟨b13,o_8,q13,cs12,hp14,hq13,-,hr15,hc12⟩:=(h.sl 3 rfl).1.at hy6
    obtain rfl:=hr15
    refine Ax 11 4095 hp14 hq13 ⟨he10.1,qI he10.2.1 (h.sl 3 rfl).2⟩ (h.pick [6,9] rfl) rfl (Ao 12 8191 rfl (qbE qb 3 0 y5 h rfl hy6 hp14 hq13 rfl hc12 rfl rfl rfl rfl rfl rfl rfl fun w38 h=>Ag (h.pick [6,9] rfl) ?_))
    replace h:=h.pick [0,2,3,4,5,6,7,8,9,10,11] rfl
    exact qmm [(2,_),(3,_)] ⟨rfl,rfl,trivial⟩ (K _ _ ⟨rfl,h⟩)
   replace h:=h.pick [7,0,1,2,3,4,5,6,8,9,10] rfl
   refine nxC h ((qf (h.frG 10 0 1 rfl rfl rfl)).1) hr9 rfl rfl rfl fun w36 h=>Ag (h.pick [5,8] rfl) (Ao 6 511 rfl (qm qb [.const (.int .i64 (-1)),.const (.int .i64 (500)),.const (.int .i64 (501))] _ ([(-1),500,501]:List Int) h rfl rfl rfl rfl rfl rfl rfl rfl rfl ⟨rfl,rfl,rfl,trivial⟩ rfl fun w37 p33 S47 h=>Ag (h.pick [6,9] rfl) ?_))
   have he9:=qax hy5
   obtain ⟨b12,o_7,q12,cs11,hp13,hq12,-,hr14,hc11⟩:=(h.sl 0 rfl).1.at hy5
   obtain rfl:=hr14
   refine Ax 9 1023 hp13 hq12 ⟨he9.1,qI he9.2.1 (h.sl 0 rfl).2⟩ (h.pick [6,9] rfl) rfl (Ao 10 2047 rfl (r_v (qfk qb (qbo (w1:=w) (S1:=fun _=>False) h 0 rfl hy5 hp13 hq12 rfl) (j:=0) rfl rfl rfl) rfl (Ag (h.pick [6,9] rfl) ?_)))
   have he10:=qax hy6
   obtain ⟨b13,o_8,q13,cs12,hp14,hq13,-,hr15,hc12⟩:=(h.sl 3 rfl).1.at hy6
   obtain rfl:=hr15
   refine Ax 11 4095 hp14 hq13 ⟨he10.1,qI he10.2.1 (h.sl 3 rfl).2⟩ (h.pick [6,9] rfl) rfl (Ao 12 8191 rfl (qbE qb 3 0 y5 h rfl hy6 hp14 hq13 rfl hc12 rfl rfl rfl rfl rfl rfl rfl fun w38 h=>Ag (h.pick [6,9] rfl) ?_))
   replace h:=h.pick [1,2,3,4,5,6,7,8,9,10,11] rfl
   exact qmm [(2,_),(3,_)] ⟨rfl,rfl,trivial⟩ (K _ _ ⟨rfl,h⟩)
  rintro e4 w39 ⟨rfl,h⟩
  refine Ad (X1 4 8 h rfl (zs 9 h rfl fun w40 h=>qa5 ?_))
  have hk5:=h
  obtain ⟨S48,h⟩:=h.gather [0,5,6,7,8,9,10] (qjy (⟨y4.Ak,y4.Bh,(setS y4.Bd 0 y5),y4.Ay⟩:qae) h (qC 4 h rfl) (qC 3 h rfl) (qC 2 h rfl) (qC 1 h rfl) (by rfl) (by rfl) (by rfl)) rfl
  replace h:=h.pick [0,2,1,3,4,5,6,7] rfl
  replace h:=h.put
  obtain ⟨S49,h⟩:=qjV (S:=_) h
  replace h:=h.frzI 3 rfl
  replace h:=h.frzI 2 rfl
  replace h:=h.frzI 0 rfl
  replace h:=h.pick [3,2,0,1,4,5,6] rfl
  replace h:=SH.merge h
  replace h:=SH.merge h
  replace h:=h.grpAdd 0 rfl (x:=((⟨r1.Af,r1.Aa,(setS r1.Ah i6 (⟨y4.Ak,y4.Bh,(setS y4.Bd 0 y5),y4.Ay⟩:qae))⟩:qd):qd)) (show GoT.R _ _ ((⟨(⟨r1.Af.Aj⟩:qq),(⟨r1.Aa.Ab,r1.Aa.Ai,r1.Aa.Ac⟩:qg),(setS r1.Ah i6 (⟨y4.Ak,y4.Bh,(setS y4.Bd 0 y5),y4.Ay⟩:qae))⟩:qd):qd) _ from ⟨[.slice p2 r1.Af.Aj.length k2],[.slice p3 r1.Aa.Ab.length k3,.slice p4 r1.Aa.Ai.length k4,.slice p5 r1.Aa.Ac.length k5,.slice p6 r1.Ah.length k6],rfl,⟨_,_,rfl,(qhc (h.grpS 0 0 rfl rfl)).1⟩,⟨[.slice p3 r1.Aa.Ab.length k3,.slice p4 r1.Aa.Ai.length k4,.slice p5 r1.Aa.Ac.length k5],[.slice p6 r1.Ah.length k6],rfl,⟨[.slice p3 r1.Aa.Ab.length k3],[.slice p4 r1.Aa.Ai.length k4,.slice p5 r1.Aa.Ac.length k5],rfl,⟨_,_,rfl,(qcG (h.grpS 0 1 rfl rfl)).1.1⟩,⟨[.slice p4 r1.Aa.Ai.length k4],[.slice p5 r1.Aa.Ac.length k5],rfl,⟨_,_,rfl,(qcG (h.grpS 0 1 rfl rfl)).2.1.1⟩,⟨_,_,rfl,(qcG (h.grpS 0 1 rfl rfl)).2.2.1⟩⟩⟩,(h.grpS 0 2 rfl rfl)⟩⟩)
  replace h:=h.grpKeep [0] 0 rfl
  obtain rfl:=qc hF
  replace h:=h.pick [0,1,4] rfl
  exact qbx qb [GoT.v qd (qA r1 p2 p3 p4 p5 p6 k2 k3 k4 k5 k6)] ⟨⟨_,_,_,rfl,rfl,hk5.box 9 rfl,rfl⟩,trivial⟩ ⟨_,_,rfl,SH.unfr 1 1 h0 h rfl rfl⟩
 refine X0 5 rfl (qk rfl hF ?_ ?_)<;>intro hF
 ·replace h:=h.pick [2,0,1,3,4] rfl
  obtain ⟨S50,S51,S52,h⟩:=qgv h
  obtain ⟨y7,hy7,hF⟩:=qe hF
  have he11:=qax hy7
  obtain ⟨S53,S54,cs13,h⟩:=h.take hy7
  obtain ⟨p34,k28,p35,k29,p36,k30,p37,k31,rfl,-,-,-,-⟩:=qcm (h.own 0 rfl)
  obtain ⟨S55,S56,S57,S58,h⟩:=qhY h
  refine rA [] [4,8] h rfl fun w41 h=>M1 7 [0,1,2] 1 (h.pick [4,8] rfl) rfl ?_
  obtain ⟨b14,hp15,-,-,hl15⟩:=h.holeAt 4 rfl
  obtain ⟨q14,hq14⟩:∃ q,q=0+(i6).toNat*GoT.k qae:=⟨_,rfl⟩
  refine Ax 3 15 hp15 hq14 ⟨he11.1,qI he11.2.1 hl15⟩ (h.pick [4,8] rfl) rfl (M0 31 [4] (h.pick [4,8] rfl) rfl (Aw 5 63 (fun w' hw=>qfk qb (qfr hw 0 rfl hp15 hq14) (j:=0) rfl rfl rfl) (h.pick [4,8] rfl) rfl ?_))
  refine M1 511 [6,7,8] 1 (h.pick [4,8] rfl) rfl ?_
  obtain ⟨b15,hp16,-,-,hl17⟩:=h.holeAt 4 rfl
  obtain ⟨q15,hq15⟩:∃ q,q=0+(i6).toNat*GoT.k qae:=⟨_,rfl⟩
  refine Ax 9 1023 hp16 hq15 ⟨he11.1,qI he11.2.1 hl17⟩ (h.pick [4,8] rfl) rfl (M0 2047 [10] (h.pick [4,8] rfl) rfl (Aw 11 4095 (fun w' hw=>qfk qb (qfr hw 0 rfl hp16 hq15) (j:=0) rfl rfl rfl) (h.pick [4,8] rfl) rfl ?_))
  refine M0 32767 [12,13,14] (h.pick [4,8] rfl) rfl (Ao 15 65535 rfl ?_)
  replace h:=h.pick [7,0,1,2,3,4,5,6,8,9,10] rfl
  obtain ⟨o6,hr16,hF⟩:=qe hF
  obtain ⟨i15,i16,i17⟩:=o6
  refine nxC h ((qf (h.frG 10 0 1 rfl rfl rfl)).1) hr16 rfl rfl rfl fun w42 h=>G0 131071 [16] (h.pick [5,8] rfl) rfl ?_
  obtain ⟨y8,hy8,hF,he12,b16,_,q16,cs14,hp17,hq16,rfl,hc14⟩:=(h.sl 4 rfl).1.ix hF
  refine Ax 17 262143 hp17 hq16 ⟨he12.1,qI he12.2.1 (h.sl 4 rfl).2⟩ (h.pick [5,8] rfl) rfl (Ao 18 524287 rfl (qbE qb 4 0 (W64 (i15-1)) h rfl hy8 hp17 hq16 rfl hc14 rfl rfl rfl rfl rfl rfl rfl fun w43 h=>Ag (h.pick [5,8] rfl) (Ad (X1 4 8 h rfl (zs 9 h rfl fun w44 h=>qa5 ?_)))))
  have hk6:=h
  obtain ⟨S59,h⟩:=h.gather [0,5,6,7,8,9,10] (qjy (⟨(setS y7.Ak (W64 ((y7.Ak.length:Int)-1)) (W64 (i15-1))),y7.Bh,y7.Bd,y7.Ay⟩:qae) h (qC 4 h rfl) (qC 3 h rfl) (qC 2 h rfl) (qC 1 h rfl) (by rfl) (by rfl) (by rfl)) rfl
  replace h:=h.pick [0,2,1,3,4,5,6,7] rfl
  replace h:=h.put
  obtain ⟨S60,h⟩:=qjV (S:=_) h
  replace h:=h.frzI 3 rfl
  replace h:=h.frzI 2 rfl
  replace h:=h.frzI 0 rfl
  replace h:=h.pick [3,2,0,1,4,5,6] rfl
  replace h:=SH.merge h
  replace h:=SH.merge h
  replace h:=h.grpAdd 0 rfl (x:=((⟨r1.Af,r1.Aa,(setS r1.Ah i6 (⟨(setS y7.Ak (W64 ((y7.Ak.length:Int)-1)) (W64 (i15-1))),y7.Bh,y7.Bd,y7.Ay⟩:qae))⟩:qd):qd)) (show GoT.R _ _ ((⟨(⟨r1.Af.Aj⟩:qq),(⟨r1.Aa.Ab,r1.Aa.Ai,r1.Aa.Ac⟩:qg),(setS r1.Ah i6 (⟨(setS y7.Ak (W64 ((y7.Ak.length:Int)-1)) (W64 (i15-1))),y7.Bh,y7.Bd,y7.Ay⟩:qae))⟩:qd):qd) _ from ⟨[.slice p2 r1.Af.Aj.length k2],[.slice p3 r1.Aa.Ab.length k3,.slice p4 r1.Aa.Ai.length k4,.slice p5 r1.Aa.Ac.length k5,.slice p6 r1.Ah.length k6],rfl,⟨_,_,rfl,(qhc (h.grpS 0 0 rfl rfl)).1⟩,⟨[.slice p3 r1.Aa.Ab.length k3,.slice p4 r1.Aa.Ai.length k4,.slice p5 r1.Aa.Ac.length k5],[.slice p6 r1.Ah.length k6],rfl,⟨[.slice p3 r1.Aa.Ab.length k3],[.slice p4 r1.Aa.Ai.length k4,.slice p5 r1.Aa.Ac.length k5],rfl,⟨_,_,rfl,(qcG (h.grpS 0 1 rfl rfl)).1.1⟩,⟨[.slice p4 r1.Aa.Ai.length k4],[.slice p5 r1.Aa.Ac.length k5],rfl,⟨_,_,rfl,(qcG (h.grpS 0 1 rfl rfl)).2.1.1⟩,⟨_,_,rfl,(qcG (h.grpS 0 1 rfl rfl)).2.2.1⟩⟩⟩,(h.grpS 0 2 rfl rfl)⟩⟩)
  replace h:=h.grpKeep [0] 0 rfl
  obtain rfl:=qc hF
  replace h:=h.pick [0,1,4] rfl
  exact qbx qb [GoT.v qd (qA r1 p2 p3 p4 p5 p6 k2 k3 k4 k5 k6)] ⟨⟨_,_,_,rfl,rfl,hk6.box 9 rfl,rfl⟩,trivial⟩ ⟨_,_,rfl,SH.unfr 1 1 h0 h rfl rfl⟩
 refine X0 5 rfl (qk rfl hF ?_ ?_)<;>intro hF
 ·refine X1 4 1 h rfl ?_
  replace h:=h.pick [2,0,1,3,4] rfl
  obtain ⟨S61,S62,S63,h⟩:=qgv h
  replace h:=h.pick [1,0,2,3,4,5,6] rfl
  obtain ⟨S64,S65,S66,h⟩:=qnK h
  obtain ⟨y9,hy9,hF,he13,b17,_,q17,cs15,hp18,hq17,hr18,hc16⟩:=(h.sl 0 rfl).1.ix hF
  obtain rfl:=qdw hr18
  refine zx hp18 hq17 ⟨he13.1,qI he13.2.1 (h.sl 0 rfl).2⟩ rfl (zp1 rfl (qbE qb 0 1 ({ y9 with Bl:=3 }:qam) h rfl hy9 hp18 hq17 (qhw y9) hc16 rfl rfl rfl (qhw ({ y9 with Bl:=3 })) rfl rfl rfl fun w45 h=>X1 5 6 h rfl (zs 7 h rfl fun w46 h=>qa5 ?_)))
  have hk7:=h
  replace h:=h.frzI 4 rfl
  replace h:=h.frzI 2 rfl
  replace h:=h.frzI 1 rfl
  replace h:=h.frzI 0 rfl
  replace h:=h.frzI 3 rfl
  replace h:=h.pick [4,2,0,1,3,5,6,7,8] rfl
  replace h:=SH.merge h
  replace h:=h.pick [0,2,1,3,4,5,6,7] rfl
  replace h:=SH.merge h
  replace h:=SH.merge h
  replace h:=SH.merge h
  replace h:=h.grpAdd 0 rfl (x:=((⟨r1.Af,(⟨r1.Aa.Ab,r1.Aa.Ai,(setS r1.Aa.Ac 0 ({ y9 with Bl:=3 }))⟩:qg),r1.Ah⟩:qd):qd)) (show GoT.R _ _ ((⟨(⟨r1.Af.Aj⟩:qq),(⟨r1.Aa.Ab,r1.Aa.Ai,(setS r1.Aa.Ac 0 ({ y9 with Bl:=3 }))⟩:qg),r1.Ah⟩:qd):qd) _ from ⟨[.slice p2 r1.Af.Aj.length k2],[.slice p3 r1.Aa.Ab.length k3,.slice p4 r1.Aa.Ai.length k4,.slice p5 r1.Aa.Ac.length k5,.slice p6 r1.Ah.length k6],rfl,⟨_,_,rfl,(qhc (h.grpS 0 0 rfl rfl)).1⟩,⟨[.slice p3 r1.Aa.Ab.length k3,.slice p4 r1.Aa.Ai.length k4,.slice p5 r1.Aa.Ac.length k5],[.slice p6 r1.Ah.length k6],rfl,⟨[.slice p3 r1.Aa.Ab.length k3],[.slice p4 r1.Aa.Ai.length k4,.slice p5 r1.Aa.Ac.length k5],rfl,(h.grpS 0 1 rfl rfl),⟨[.slice p4 r1.Aa.Ai.length k4],[.slice p5 r1.Aa.Ac.length k5],rfl,(h.grpS 0 2 rfl rfl),(h.grpS 0 3 rfl rfl)⟩⟩,(h.grpS 0 4 rfl rfl)⟩⟩)
  replace h:=h.grpKeep [0] 0 rfl
  obtain rfl:=qc hF
  replace h:=h.pick [0,1,4] rfl
  exact qbx qb [GoT.v qd (qA r1 p2 p3 p4 p5 p6 k2 k3 k4 k5 k6)] ⟨⟨_,_,_,rfl,rfl,hk7.box 7 rfl,rfl⟩,trivial⟩ ⟨_,_,rfl,SH.unfr 1 1 h0 h rfl rfl⟩
 refine X1 5 1 h rfl (zs 3 h rfl fun w47 h=>qa5 ?_)
 have hk8:=h
 replace h:=h.frzI 2 rfl
 replace h:=h.grpAdd 2 rfl (x:=(r1:qd)) (h.grpS 2 0 rfl rfl)
 replace h:=h.grpKeep [0] 2 rfl
 obtain rfl:=qc hF
 replace h:=h.pick [2,0,4] rfl
 exact qbx qb [GoT.v qd (qA r1 p2 p3 p4 p5 p6 k2 k3 k4 k5 k6)] ⟨⟨_,_,_,rfl,rfl,hk8.box 3 rfl,rfl⟩,trivial⟩ ⟨_,_,rfl,SH.unfr 1 1 h0 h rfl rfl⟩
def qic (n:Nat) (s:Tl01Source):Option (qd × Int × Int) :=
 (qn n (⟨s.code,s.at_,s.seed⟩:Tl01Source) 16).bind fun o=>match o with
  | (i1,i2,i3) =>
   bif (i1==0) then
    (qgJ n (⟨s.code,i2,i3⟩:Tl01Source)).bind fun o=>match o with
     | (r1,i4,i5) =>
      some (r1,i4,i5)
   else
    (qn n (⟨s.code,i2,i3⟩:Tl01Source) 7).bind fun o=>match o with
     | (i6,i7,i8) =>
      (qn n (⟨s.code,i7,i8⟩:Tl01Source) 8).bind fun o=>match o with
       | (i9,i10,i11) =>
        (qg3 n (⟨s.code,i10,i11⟩:Tl01Source) (W64 (2+i6)) (i9==0)).bind fun o=>match o with
         | (r2,i12,i13) =>
          some (r2,i12,i13)
theorem qmi {n:Nat} {w0 w:World} {F:List Ch} {s:Tl01Source} {bb1:Nat} {p1:Option Addr} {k1:Nat} (h0:SH w0 w (Ch.box bb1 (qan s p1 k1) 184::F)) (ha1:GoT.R w (Fr w0 F) s [.slice p1 s.code.length k1,.int .i64 s.at_,.int .i64 s.seed]) {r:(qd × Int × Int)} (hF:qic n s=some r):RetW Tryz.prog 69 [.pointer (some ⟨bb1,0,none⟩)] w (fun us w'=>∃ (S1:Nat→Prop) (cs1:List Value),us=[GoT.v qd cs1]∧SH w0 w' (Ch.grp (fun _=>False) S1 [fct (r.1:qd) cs1]::Ch.box bb1 [.slice p1 s.code.length k1,.int .i64 r.2.1,.int .i64 r.2.2] 184::F)):=by
 have h:=SH.frm1 h0 ha1
 refine qbr Tryz.func69 rfl (m:=16) rfl rfl (zSR (qB qb h rfl rfl rfl fun w1 bb2 h=>X0 5 rfl ?_))
 replace h:=h.pick [1,0,2] rfl
 obtain ⟨o1,hr1,hF⟩:=qe hF
 obtain ⟨i1,i2,i3⟩:=o1
 refine nxC h ((qf (h.frG 2 0 1 rfl rfl rfl)).1) hr1 rfl rfl rfl fun w2 h=>X0 2 rfl (qk rfl hF ?_ ?_)<;>intro hF
 ·refine X0 3 rfl ?_
  obtain ⟨o2,hr2,hF⟩:=qe hF
  obtain ⟨r1,i4,i5⟩:=o2
  refine qaV (cB 128 rfl) (qk1 (a_0:=(⟨s.code,i2,i3⟩:Tl01Source)) h (show GoT.R _ _ ((⟨s.code,i2,i3⟩:Tl01Source):Tl01Source) _ from ⟨[.slice p1 s.code.length k1],[.int .i64 i2,.int .i64 i3],rfl,⟨_,_,rfl,(qf (h.frG 2 0 1 rfl rfl rfl)).1⟩,⟨[.int .i64 i2],[.int .i64 i3],rfl,rfl,rfl⟩⟩) hr2) rfl rfl rfl rfl ?_
  rintro w3 us2 ⟨S2,cs2,rfl,h⟩
  have hr3:=h.grpS 0 0 rfl rfl
  obtain ⟨p2,k2,p3,k3,p4,k4,p5,k5,p6,k6,rfl,s1,s2,s3,s4,s5⟩:=qD hr3
  replace h:SH _ _ [Ch.grp (fun _=>False) S2 [fct (r1:qd) [.slice p2 r1.Af.Aj.length k2,.slice p3 r1.Aa.Ab.length k3,.slice p4 r1.Aa.Ai.length k4,.slice p5 r1.Aa.Ac.length k5,.slice p6 r1.Ah.length k6]],Ch.box bb1 [.slice p1 s.code.length k1,.int .i64 i4,.int .i64 i5] 184,Ch.box bb2 [.slice none 0 0,.slice none 0 0,.slice none 0 0,.slice none 0 0,.slice none 0 0] 34,Ch.grp (old w0) (FS F) [fct (s:Tl01Source) [.slice p1 s.code.length k1,.int .i64 s.at_,.int .i64 s.seed],same w0 w F]]:=h
  refine zs 2 h rfl fun w4 h=>qa5 ?_
  have hk1:=h
  replace h:=h.grpAdd 0 rfl (x:=(r1:qd)) (h.grpS 0 0 rfl rfl)
  replace h:=h.grpKeep [0] 0 rfl
  obtain rfl:=qc hF
  replace h:=h.pick [0,1,3] rfl
  exact qbx qb [GoT.v qd (qA r1 p2 p3 p4 p5 p6 k2 k3 k4 k5 k6)] ⟨⟨_,_,_,rfl,rfl,hk1.box 2 rfl,rfl⟩,trivial⟩ ⟨_,_,rfl,SH.unfr 1 1 h0 h rfl rfl⟩
 refine X0 5 rfl ?_
 obtain ⟨o3,hr5,hF⟩:=qe hF
 obtain ⟨i6,i7,i8⟩:=o3
 refine nxC h ((qf (h.frG 2 0 1 rfl rfl rfl)).1) hr5 rfl rfl rfl fun w5 h=>zp2 rfl ?_
 obtain ⟨o4,hr6,hF⟩:=qe hF
 obtain ⟨i9,i10,i11⟩:=o4
 refine nxC h ((qf (h.frG 2 0 1 rfl rfl rfl)).1) hr6 rfl rfl rfl fun w6 h=>zp1 rfl ?_
 obtain ⟨o5,hr7,hF⟩:=qe hF
 obtain ⟨r2,i12,i13⟩:=o5
 refine qaV (cB 129 rfl) (qjg (s:=(⟨s.code,i10,i11⟩:Tl01Source)) (most:=(W64 (2+i6))) (wild:=(i9==0)) h (show GoT.R _ _ ((⟨s.code,i10,i11⟩:Tl01Source):Tl01Source) _ from ⟨[.slice p1 s.code.length k1],[.int .i64 i10,.int .i64 i11],rfl,⟨_,_,rfl,(qf (h.frG 2 0 1 rfl rfl rfl)).1⟩,⟨[.int .i64 i10],[.int .i64 i11],rfl,rfl,rfl⟩⟩) hr7) rfl rfl rfl rfl ?_
 rintro w7 us5 ⟨S3,cs3,rfl,h⟩
 obtain ⟨p7,k7,p8,k8,p9,k9,p10,k10,p11,k11,rfl,-,-,-,-,-⟩:=qD (h.own 0 rfl)
 replace h:SH _ _ [Ch.own S3 (r2:qd) (qA r2 p7 p8 p9 p10 p11 k7 k8 k9 k10 k11),Ch.box bb1 [.slice p1 s.code.length k1,.int .i64 i12,.int .i64 i13] 184,Ch.box bb2 [.slice none 0 0,.slice none 0 0,.slice none 0 0,.slice none 0 0,.slice none 0 0] 34,Ch.grp (old w0) (FS F) [fct (s:Tl01Source) [.slice p1 s.code.length k1,.int .i64 s.at_,.int .i64 s.seed],same w0 w F]]:=h
 refine zs 2 h rfl fun w8 h=>qa5 ?_
 have hk2:=h
 replace h:=h.frzI 0 rfl
 replace h:=h.grpAdd 0 rfl (x:=(r2:qd)) (h.grpS 0 0 rfl rfl)
 replace h:=h.grpKeep [0] 0 rfl
 obtain rfl:=qc hF
 replace h:=h.pick [0,1,3] rfl
 exact qbx qb [GoT.v qd (qA r2 p7 p8 p9 p10 p11 k7 k8 k9 k10 k11)] ⟨⟨_,_,_,rfl,rfl,hk2.box 2 rfl,rfl⟩,trivial⟩ ⟨_,_,rfl,SH.unfr 1 1 h0 h rfl rfl⟩
def qek (code:(List (IntK .u8))):Nat→Int→Int→Option (Int × Int)
 | 0,_,_=>none
 | n+1,i1,i2 =>
  (
   bif decide (i2<(code.length:Int)) then some (decide (i2<64)) else
   some false).bind fun b1 =>
  bif b1 then
   (idx code i2).bind fun y1 =>
   qek code n ((W64 ((W64 (i1*31))+(W64 y1.val))).tmod 2147483647) (W64 (i2+1))
  else
   some (i1,i2)
def qjW (n:Nat) (code:(List (IntK .u8))):Option (Option Tl01Source) :=
 (qek code n 12345 0).bind fun o=>match o with
 | (i1,_) =>
  some (some (⟨code,0,i1⟩:Tl01Source))
theorem qlX {n:Nat} {w:World} {code:(List (IntK .u8))} {cs1:List Value} (ha1:GoT.R w (old w) code cs1) {r:(Option Tl01Source)} (hF:qjW n code=some r):RetZ Tryz.prog 68 [GoT.v (List (IntK .u8)) cs1] w (fun us L=>∃ (ubb1:Nat) (ui2:Int),r=(some (⟨code,0,ui2⟩:Tl01Source))∧us=[GoT.v (Option Tl01Source) [.pointer (some ⟨ubb1,0,none⟩)]]∧L=[Ch.box ubb1 (cs1++[.int .i64 0,.int .i64 ui2]) 184]):=by
 obtain ⟨p1,k1,rfl,s1⟩:=ha1
 refine qo7 Tryz.func68 rfl (m:=34) rfl rfl (fun h=>?_)
 refine X0 7 rfl (r_v (qat qb [0,2] [.tmp 5,.const (.int .i64 (12345))] rfl rfl rfl rfl rfl rfl rfl rfl) rfl (qO h rfl rfl fun w1 bb1 h=>X0 7 rfl ?_))
 obtain ⟨o1,hF,hK1⟩:=qe hF
 refine ql (rL (fun m e w'=>∃ (i1:Int) (i2:Int),qek code m i1 i2=some o1∧e=[(0,.slice p1 code.length k1),(3,.pointer (some ⟨bb1,0,none⟩)),(4,.int .i64 i2)]∧SH w w' [Ch.box bb1 [.slice p1 code.length k1,.int .i64 0,.int .i64 i1] 184]) n ⟨_,_,hF,rfl,h⟩ rfl ?_)
 rintro m1 e1 w2 ⟨i1,i2,hF,rfl,h⟩
 rcases m1 with _|m1
 ·cases hF
 refine zSS ?_
 obtain ⟨KF1,hKF1,o2,hF,hK2⟩:=bindE hF
 refine qa8 (fun e w'=>∃ (b1:Bool),KF1 b1=some o1∧e=[(0,.slice p1 code.length k1),(3,.pointer (some ⟨bb1,0,none⟩)),(4,.int .i64 i2),(15,.bool b1)]∧SH w w' [Ch.box bb1 [.slice p1 code.length k1,.int .i64 0,.int .i64 i1] 184]) ?_ ?_
 ·refine X0 6 rfl (qh (t:=12) hF rfl ?_ ?_)<;>intro hF
  ·refine X0 6 rfl ?_
   obtain rfl:=qc hF
   exact rG ⟨_,hK2,rfl,h⟩ rfl
  refine X0 4 rfl ?_
  obtain rfl:=qc hF
  exact rG ⟨_,hK2,rfl,h⟩ rfl
 rintro e2 w5 ⟨b1,hF,rfl,h⟩
 subst hKF1
 refine qk rfl hF ?_ ?_<;>intro hF
 ·refine zKSB (rA [15] [0] h rfl fun w3 h=>M1 255 [0,1,2,3,4,5,6,7] 0 (h.pick [0] rfl) rfl ?_)
  obtain ⟨y1,hy1,hF,he1,b2,_,q1,cs2,hp1,hq1,rfl,hc2⟩:=s1.ix hF
  exact Ae 8 511 hp1 hq1 he1 (h.pick [0] rfl) rfl (Al 9 1023 0 hc2 (h.pick [0] rfl) rfl (M0 8191 [10,11,12] (h.pick [0] rfl) rfl (Ao 13 16383 rfl (zp1 rfl (G0 32767 [14] (h.pick [0] rfl) rfl (Ao 15 65535 rfl (zs 0 h rfl fun w4 h=>qeh (fun hs=>absurd (hs 15 (by decide)) (by decide)) (Ad (X0 6 rfl (rK ⟨_,_,hF,rfl,h⟩ rfl))))))))))
 refine qp rfl ?_
 obtain rfl:=qc hF;replace hF:=hK1
 refine X0 5 rfl ?_
 obtain rfl:=qc hF
 exact qtG qb [GoT.v (Option Tl01Source) [.pointer (some ⟨bb1,0,none⟩)]] h ⟨rfl,trivial⟩ ⟨bb1,i1,rfl,rfl,rfl⟩
def qcv (s:Tl01Source) (b:qd):Nat→(List Int)→Int→Int→Int→Int→Option ((List Int) × Int × Int)
 | 0,_,_,_,_,_=>none
 | n+1,x3,i18,i19,i20,i21 =>
  bif decide (i21 > 0) then
   (qdN n b i20).bind fun r3 =>
   bif ((r3.length:Int)==0) then some (x3,i18,i19) else
   (qn n (⟨s.code,i18,i19⟩:Tl01Source) (r3.length:Int)).bind fun o=>match o with
    | (i22,i23,i24) =>
     (idx r3 i22).bind fun y1 =>
     (appS x3 ([y1]:List Int)).bind fun x4 =>
     qcv s b n x4 i23 i24 y1 (W64 (i21-1))
  else
   some (x3,i18,i19)
def qfc (n:Nat) (s:Tl01Source) (b:qd):Option ((List Int) × Int × Int) :=
 (qe3 n b).bind fun r1 =>
 (qab n b).bind fun r2 =>
 (qn n (⟨s.code,s.at_,s.seed⟩:Tl01Source) (if r2 > 1 then r2 else 1)).bind fun o=>match o with
  | (i1,i2,i3) =>
   (
    bif decide ((r1.length:Int) > 0) then
     (qn n (⟨s.code,i2,i3⟩:Tl01Source) 6).bind fun o=>match o with
      | (i28,i29,i30) =>
       some (i29,i30,decide (i28 > 0))
    else
     some (i2,i3,false)).bind fun o=>match o with
    | (i4,i5,b1) =>
     (
      bif b1 then
       (qn n (⟨s.code,i4,i5⟩:Tl01Source) (r1.length:Int)).bind fun o=>match o with
        | (i25,i26,i27) =>
         (idx r1 i25).bind fun y2 =>
         some (i26,i27,y2)
      else
       some (i4,i5,i1)).bind fun o=>match o with
      | (i6,i7,i8) =>
       (qn n (⟨s.code,i6,i7⟩:Tl01Source) 10).bind fun o=>match o with
        | (i9,i10,i11) =>
         (qcv s b n ([i8]:List Int) i10 i11 i8 (W64 (2+i9))).bind fun o=>match o with
         | (x2,i16,i17) =>
          some (x2,i16,i17)
theorem qhK {n:Nat} {w0 w:World} {F:List Ch} {s:Tl01Source} {bb1:Nat} {p1:Option Addr} {k1:Nat} {b:qd} {cs1:List Value} (h0:SH w0 w (Ch.box bb1 (qan s p1 k1) 184::F)) (ha1:GoT.R w (Fr w0 F) s [.slice p1 s.code.length k1,.int .i64 s.at_,.int .i64 s.seed]) (ha2:GoT.R w (Fr w0 F) b cs1) {r:((List Int) × Int × Int)} (hF:qfc n s b=some r):RetW Tryz.prog 71 [.pointer (some ⟨bb1,0,none⟩),GoT.v qd cs1] w (fun us w'=>∃ (S1:Nat→Prop) (cs2:List Value),us=[GoT.v (List Int) cs2]∧SH w0 w' (Ch.own S1 (r.1:(List Int)) cs2::Ch.box bb1 [.slice p1 s.code.length k1,.int .i64 r.2.1,.int .i64 r.2.2] 184::F)):=by
 have h:=SH.frm1 h0 ha1
 have hz1:=ha2
 obtain ⟨p2,k2,p3,k3,p4,k4,p5,k5,p6,k6,rfl,s1,s2,s3,s4,s5⟩:=qD ha2
 replace h:=h.grpAdd 1 rfl hz1
 replace h:SH _ _ [Ch.box bb1 (qan s p1 k1) 184,Ch.grp (old w0) (FS F) [fct (b:qd) [.slice p2 b.Af.Aj.length k2,.slice p3 b.Aa.Ab.length k3,.slice p4 b.Aa.Ai.length k4,.slice p5 b.Aa.Ac.length k5,.slice p6 b.Ah.length k6],fct (s:Tl01Source) [.slice p1 s.code.length k1,.int .i64 s.at_,.int .i64 s.seed],same w0 w F]]:=h
 refine qbr Tryz.func71 rfl (m:=59) rfl rfl (zSR (qO h rfl rfl fun w1 bb2 h=>X1 5 0 h rfl (zcL h hF (qhh (h.grp 2 0 rfl rfl)) rfl fun r1 w2 S2 p7 k7 h hF=>X1 6 1 h rfl (zcI h hF (qaK (h.grp 3 0 rfl rfl)) rfl fun r2 w3 h hF=>zp1 rfl ?_))))
 replace h:=h.pick [2,0,1,3] rfl
 obtain ⟨o1,hr3,hF⟩:=qe hF
 obtain ⟨i1,i2,i3⟩:=o1
 refine nxC h ((qf (h.frG 3 1 1 rfl rfl rfl)).1) hr3 rfl rfl rfl fun w4 h=>X0 4 rfl ?_
 obtain ⟨KF3,hKF3,o7,hF,hK3⟩:=bindE hF
 refine qa8 (fun e w'=>∃ (i4:Int) (i5:Int) (b1:Bool),KF3 (i4,i5,b1)=some r∧e=[(0,.pointer (some ⟨bb1,0,none⟩)),(3,.pointer (some ⟨bb2,0,none⟩)),(5,.slice p7 r1.length k7),(6,.int .i64 i1),(24,.bool b1)]∧SH w0 w' [Ch.box bb1 [.slice p1 s.code.length k1,.int .i64 i4,.int .i64 i5] 184,Ch.own S2 (r1:List Int) [.slice p7 r1.length k7],Ch.box bb2 (qA b p2 p3 p4 p5 p6 k2 k3 k4 k5 k6) 34,Ch.grp (old w0) (FS F) [fct (b:qd) [.slice p2 b.Af.Aj.length k2,.slice p3 b.Aa.Ab.length k3,.slice p4 b.Aa.Ai.length k4,.slice p5 b.Aa.Ac.length k5,.slice p6 b.Ah.length k6],fct (s:Tl01Source) [.slice p1 s.code.length k1,.int .i64 s.at_,.int .i64 s.seed],same w0 w F]]) ?_ ?_
 ·refine X0 5 rfl (qh (t:=20) hF rfl ?_ ?_)<;>intro hF
  ·refine X0 3 rfl ?_
   obtain ⟨o8,hr10,hF⟩:=qe hF
   obtain ⟨i28,i29,i30⟩:=o8
   refine nxC h ((qf (h.frG 3 1 1 rfl rfl rfl)).1) hr10 rfl rfl rfl fun w15 h=>X0 4 rfl ?_
   obtain rfl:=qc hF
   exact rG ⟨_,_,_,hK3,rfl,h⟩ rfl
  refine X0 5 rfl ?_
  obtain rfl:=qc hF
  exact rG ⟨_,_,_,hK3,rfl,h⟩ rfl
 rintro e4 w16 ⟨i4,i5,b1,hF,rfl,h⟩
 subst hKF3
 obtain ⟨KF2,hKF2,o5,hF,hK2⟩:=bindE hF
 refine qa8 (fun e w'=>∃ (i6:Int) (i7:Int) (i8:Int),KF2 (i6,i7,i8)=some r∧e=[(0,.pointer (some ⟨bb1,0,none⟩)),(3,.pointer (some ⟨bb2,0,none⟩)),(6,.int .i64 i8)]∧SH w0 w' [Ch.box bb1 [.slice p1 s.code.length k1,.int .i64 i6,.int .i64 i7] 184,Ch.box bb2 (qA b p2 p3 p4 p5 p6 k2 k3 k4 k5 k6) 34,Ch.grp (old w0) (FS F) [fct (b:qd) [.slice p2 b.Af.Aj.length k2,.slice p3 b.Aa.Ab.length k3,.slice p4 b.Aa.Ai.length k4,.slice p5 b.Aa.Ac.length k5,.slice p6 b.Ah.length k6],fct (s:Tl01Source) [.slice p1 s.code.length k1,.int .i64 s.at_,.int .i64 s.seed],same w0 w F]]) ?_ ?_
 ·refine qk rfl hF ?_ ?_<;>intro hF
  ·refine X0 5 rfl ?_
   obtain ⟨o6,hr8,hF⟩:=qe hF
   obtain ⟨i25,i26,i27⟩:=o6
   refine nxC h ((qf (h.frG 3 1 1 rfl rfl rfl)).1) hr8 rfl rfl rfl fun w13 h=>?_
   obtain ⟨y2,hy2,hF,he2,b3,_,q2,cs4,hp2,hq2,rfl,hc5⟩:=(h.sl 1 rfl).1.ix hF
   refine zx hp2 hq2 ⟨he2.1,qI he2.2.1 (h.sl 1 rfl).2⟩ rfl (zc 0 hc5 rfl (X0 2 rfl ?_))
   replace h:=h.pick [0,2,3] rfl
   obtain rfl:=qc hF
   exact rG ⟨_,_,_,hK2,rfl,h⟩ rfl
  refine qeg ?_
  replace h:=h.pick [0,2,3] rfl
  obtain rfl:=qc hF
  exact rG ⟨_,_,_,hK2,rfl,h⟩ rfl
 rintro e3 w14 ⟨i6,i7,i8,hF,rfl,h⟩
 subst hKF2
 refine X0 3 rfl (qm qb [.tmp 32] _ ([i8]:List Int) h rfl rfl rfl rfl rfl rfl rfl rfl rfl ⟨rfl,trivial⟩ rfl fun w5 p8 S3 h=>X0 6 rfl ?_)
 replace h:=h.pick [1,0,2,3] rfl
 obtain ⟨o2,hr4,hF⟩:=qe hF
 obtain ⟨i9,i10,i11⟩:=o2
 refine nxC h ((qf (h.frG 3 1 1 rfl rfl rfl)).1) hr4 rfl rfl rfl fun w6 h=>X0 3 rfl ?_
 obtain ⟨KF1,hKF1,o3,hF,hK1⟩:=bindE hF
 refine qa8 (fun e w'=>∃ (S5:Nat→Prop) (p10:Option Addr) (ln2:Nat) (k9:Nat) (x2:(List Int)) (i16:Int) (i17:Int),KF1 (x2,i16,i17)=some r∧e=[(7,.slice p10 ln2 k9)]∧SH w0 w' [Ch.box bb1 [.slice p1 s.code.length k1,.int .i64 i16,.int .i64 i17] 184,Ch.own S5 (x2:List Int) [.slice p10 ln2 k9],Ch.grp (old w0) (FS F) [fct (s:Tl01Source) [.slice p1 s.code.length k1,.int .i64 s.at_,.int .i64 s.seed],same w0 w F]]) ?_ ?_
 ·refine ql (rL (fun m e w'=>∃ (S6:Nat→Prop) (p11:Option Addr) (ln3:Nat) (k10:Nat) (x3:(List Int)) (i18:Int) (i19:Int) (i20:Int) (i21:Int),qcv s b m x3 i18 i19 i20 i21=some o3∧e=[(0,.pointer (some ⟨bb1,0,none⟩)),(3,.pointer (some ⟨bb2,0,none⟩)),(6,.int .i64 i20),(7,.slice p11 ln3 k10),(8,.int .i64 i21)]∧SH w0 w' [Ch.box bb1 [.slice p1 s.code.length k1,.int .i64 i18,.int .i64 i19] 184,Ch.own S6 (x3:List Int) [.slice p11 ln3 k10],Ch.box bb2 (qA b p2 p3 p4 p5 p6 k2 k3 k4 k5 k6) 34,Ch.grp (old w0) (FS F) [fct (b:qd) [.slice p2 b.Af.Aj.length k2,.slice p3 b.Aa.Ab.length k3,.slice p4 b.Aa.Ai.length k4,.slice p5 b.Aa.Ac.length k5,.slice p6 b.Ah.length k6],fct (s:Tl01Source) [.slice p1 s.code.length k1,.int .i64 s.at_,.int .i64 s.seed],same w0 w F]]) n ⟨_,_,_,_,_,_,_,_,_,hF,rfl,h⟩ rfl ?_)
  rintro m1 e1 w7 ⟨S6,p11,ln3,k10,x3,i18,i19,i20,i21,hF,rfl,h⟩
  obtain rfl:=(h.sl 1 rfl).2
  rcases m1 with _|m1
  ·cases hF
  refine X0 6 rfl (qk rfl hF ?_ ?_)<;>intro hF
  ·refine X1 7 2 h rfl (zcL h hF (qe0 (h.grp 3 0 rfl rfl)) rfl fun r3 w8 S7 p12 k11 h hF=>X0 9 rfl (qk rfl hF ?_ ?_))<;>intro hF
   ·refine qp rfl ?_
    replace h:=h.grpKeep [1,2] 4 rfl
    replace h:=h.pick [1,2,4] rfl
    obtain rfl:=qc hF
    exact rG ⟨_,_,_,_,_,_,_,hK1,rfl,h⟩ rfl
   refine X0 7 rfl ?_
   replace h:=h.pick [1,0,2,3,4] rfl
   obtain ⟨o4,hr6,hF⟩:=qe hF
   obtain ⟨i22,i23,i24⟩:=o4
   refine nxC h ((qf (h.frG 4 1 1 rfl rfl rfl)).1) hr6 rfl rfl rfl fun w9 h=>?_
   obtain ⟨y1,hy1,hF,he1,b2,_,q1,cs3,hp1,hq1,rfl,hc3⟩:=(h.sl 1 rfl).1.ix hF
   refine zx hp1 hq1 ⟨he1.1,qI he1.2.1 (h.sl 1 rfl).2⟩ rfl (zc 0 hc3 rfl (X0 5 rfl (qm qb [.tmp 55] _ ([y1]:List Int) h rfl rfl rfl rfl rfl rfl rfl rfl rfl ⟨rfl,trivial⟩ rfl fun w10 p13 S8 h=>?_)))
   obtain ⟨x4,hx1,hF⟩:=qe hF
   obtain ⟨g1,hx1⟩:=qr hx1
   refine qaf qb 3 h rfl (h.sl 0 rfl).1 (h.sl 0 rfl).2 rfl rfl rfl rfl rfl rfl rfl rfl rfl g1 hx1 rfl fun w11 p14 k12 S9 h=>X0 8 rfl ?_
   replace h:=h.pick [1,3,4,5] rfl
   exact rK ⟨_,_,_,_,_,_,_,_,_,hF,rfl,h⟩ rfl
  refine qp rfl ?_
  replace h:=h.grpKeep [1,2] 3 rfl
  replace h:=h.pick [0,1,3] rfl
  obtain rfl:=qc hF
  exact rG ⟨_,_,_,_,_,_,_,hK1,rfl,h⟩ rfl
 rintro e2 w12 ⟨S5,p10,ln2,k9,x2,i16,i17,hF,rfl,h⟩
 subst hKF1
 obtain rfl:=(h.sl 1 rfl).2
 refine X0 5 rfl ?_
 obtain rfl:=qc hF
 replace h:=h.pick [1,0,2] rfl
 exact qbx qb [GoT.v (List Int) [.slice p10 x2.length k9]] ⟨rfl,trivial⟩ ⟨_,_,rfl,SH.unfr 1 1 h0 h rfl rfl⟩
def qaZ (a_0:Tl01Source) (a_2:(List Int)):Nat→(List Int)→Int→Int→Int→Option ((List Int) × Int × Int × Int)
 | 0,_,_,_,_=>none
 | n+1,x3,i13,i14,i15 =>
  bif decide (i15<(a_2.length:Int)) then
   (
    bif decide ((x3.length:Int)<2) then
     (qn n (⟨a_0.code,i13,i14⟩:Tl01Source) 5).bind fun o=>match o with
      | (i18,i19,i20) =>
       some (i19,i20,(i18==0))
    else
     some (i13,i14,false)).bind fun o=>match o with
    | (i16,i17,b1) =>
     bif b1 then
      (idx a_2 i15).bind fun y1 =>
      (appS x3 ([y1]:List Int)).bind fun x4 =>
      (appS ([]:List Int) x4).bind fun x5 =>
      qaZ a_0 a_2 n x5 i16 i17 (W64 (i15+1))
     else
      qaZ a_0 a_2 n x3 i16 i17 (W64 (i15+1))
  else
   some (x3,i13,i14,i15)
def qea (n:Nat) (a_0:Tl01Source) (a_1:qd) (a_2:(List Int)):Option (qa × Int × Int) :=
 (qn n (⟨a_0.code,a_0.at_,a_0.seed⟩:Tl01Source) 4).bind fun o=>match o with
  | (i1,i2,i3) =>
   (
    bif ((W64 (1+i1))==2) then
     (qn n (⟨a_0.code,i2,i3⟩:Tl01Source) 4).bind fun o=>match o with
      | (i33,i34,i35) =>
       some (i34,i35,W64 (1+i33))
    else
     bif ((W64 (1+i1))==3) then
      bif ((W64 (1+i1))==3) then
       (qn n (⟨a_0.code,i2,i3⟩:Tl01Source) 40).bind fun o=>match o with
        | (i36,i37,i38) =>
         some (i37,i38,W64 (10*i36))
      else
       some (i2,i3,0)
     else
      bif ((W64 (1+i1))==4) then
       (qn n (⟨a_0.code,i2,i3⟩:Tl01Source) 40).bind fun o=>match o with
        | (i39,i40,i41) =>
         some (i40,i41,W64 (10*i39))
      else
       some (i2,i3,0)).bind fun o=>match o with
    | (i4,i5,i6) =>
     (qn n (⟨a_0.code,i4,i5⟩:Tl01Source) 2).bind fun o=>match o with
      | (i7,i8,i9) =>
       (
        bif (i7==0) then
         (idx a_2 0).bind fun y3 =>
         some ([y3]:List Int)
        else
         some ([]:List Int)).bind fun x1 =>
       (qn n (⟨a_0.code,i8,i9⟩:Tl01Source) 2).bind fun o=>match o with
        | (i10,i11,i12) =>
         (
          bif (i10==0) then
           (idx a_2 (W64 ((a_2.length:Int)-1))).bind fun y2 =>
           some ([y2]:List Int)
          else
           some ([]:List Int)).bind fun x2 =>
         (qaZ a_0 a_2 n ([]:List Int) i11 i12 0).bind fun o=>match o with
         | (x3,i13,i14,_) =>
          (qn n (⟨a_0.code,i13,i14⟩:Tl01Source) 12).bind fun o=>match o with
           | (i21,i22,i23) =>
            bif (i21==0) then
             (qab n a_1).bind fun r1 =>
             (qn n (⟨a_0.code,i22,i23⟩:Tl01Source) r1).bind fun o=>match o with
              | (i24,i25,i26) =>
               some ((⟨W64 (1+i1),i6,([i24]:List Int),x3,x2⟩:qa),i25,i26)
            else
             bif (i21==1) then
              (qab n a_1).bind fun r2 =>
              (qn n (⟨a_0.code,i22,i23⟩:Tl01Source) r2).bind fun o=>match o with
               | (i27,i28,i29) =>
                some ((⟨W64 (1+i1),i6,x1,x3,([i27]:List Int)⟩:qa),i28,i29)
             else
              bif (i21==2) then
               (qab n a_1).bind fun r3 =>
               (qn n (⟨a_0.code,i22,i23⟩:Tl01Source) r3).bind fun o=>match o with
                | (i30,i31,i32) =>
                 some ((⟨W64 (1+i1),i6,x1,([i30]:List Int),x2⟩:qa),i31,i32)
              else
               some ((⟨W64 (1+i1),i6,x1,x3,x2⟩:qa),i22,i23)
theorem qiL {n:Nat} {w0 w:World} {F:List Ch} {a_0:Tl01Source} {bb1:Nat} {p1:Option Addr} {k1:Nat} {a_1:qd} {cs1:List Value} {a_2:(List Int)} {cs2:List Value} (h0:SH w0 w (Ch.box bb1 (qan a_0 p1 k1) 184::F)) (ha1:GoT.R w (Fr w0 F) a_0 [.slice p1 a_0.code.length k1,.int .i64 a_0.at_,.int .i64 a_0.seed]) (ha2:GoT.R w (Fr w0 F) a_1 cs1) (ha3:GoT.R w (Fr w0 F) a_2 cs2) {r:(qa × Int × Int)} (hF:qea n a_0 a_1 a_2=some r):RetW Tryz.prog 131 [.pointer (some ⟨bb1,0,none⟩),GoT.v qd cs1,GoT.v (List Int) cs2] w (fun us w'=>∃ (S1:Nat→Prop) (cs3:List Value),us=[GoT.v qa cs3]∧SH w0 w' (Ch.own S1 (r.1:qa) cs3::Ch.box bb1 [.slice p1 a_0.code.length k1,.int .i64 r.2.1,.int .i64 r.2.2] 184::F)):=by
 have h:=SH.frm1 h0 ha1
 have hz1:=ha2
 obtain ⟨p2,k2,p3,k3,p4,k4,p5,k5,p6,k6,rfl,s1,s2,s3,s4,s5⟩:=qD ha2
 replace h:=h.grpAdd 1 rfl hz1
 have hz2:=ha3
 obtain ⟨p7,k7,rfl,s6⟩:=ha3
 replace h:=h.grpAdd 1 rfl hz2
 replace h:SH _ _ [Ch.box bb1 (qan a_0 p1 k1) 184,Ch.grp (old w0) (FS F) [fct (a_2:(List Int)) [.slice p7 a_2.length k7],fct (a_1:qd) [.slice p2 a_1.Af.Aj.length k2,.slice p3 a_1.Aa.Ab.length k3,.slice p4 a_1.Aa.Ai.length k4,.slice p5 a_1.Aa.Ac.length k5,.slice p6 a_1.Ah.length k6],fct (a_0:Tl01Source) [.slice p1 a_0.code.length k1,.int .i64 a_0.at_,.int .i64 a_0.seed],same w0 w F]]:=h
 refine qbr Tryz.func131 rfl (m:=108) rfl rfl (zSR (qO h rfl rfl fun w1 bb2 h=>qB qb h rfl rfl rfl fun w2 bb3 h=>X0 4 rfl ?_))
 replace h:=h.pick [2,0,1,3] rfl
 obtain ⟨o1,hr1,hF⟩:=qe hF
 obtain ⟨i1,i2,i3⟩:=o1
 refine nxC h ((qf (h.frG 3 2 1 rfl rfl rfl)).1) hr1 rfl rfl rfl fun w3 h=>zp1 rfl (r_v (qat qb [0] [.tmp 11] rfl rfl rfl rfl rfl rfl rfl rfl) rfl (qB qb h rfl rfl rfl fun w4 bb4 h=>zs 0 h rfl fun w5 h=>X1 13 0 h rfl ?_))
 obtain ⟨KF4,hKF4,o13,hF,hK5⟩:=bindE hF
 refine qa8 (fun e w'=>∃ (i4:Int) (i5:Int) (i6:Int),KF4 (i4,i5,i6)=some r∧e=[(0,.pointer (some ⟨bb1,0,none⟩)),(2,.slice p7 a_2.length k7),(4,.pointer (some ⟨bb2,0,none⟩)),(6,.pointer (some ⟨bb3,0,none⟩)),(7,.pointer (some ⟨bb4,0,none⟩))]∧SH w0 w' [Ch.box bb1 [.slice p1 a_0.code.length k1,.int .i64 i4,.int .i64 i5] 184,Ch.box bb4 [.int .i64 (W64 (1+i1)),.int .i64 i6,.slice none 0 0,.slice none 0 0,.slice none 0 0] 106,Ch.box bb3 [.int .i64 0,.int .i64 0,.slice none 0 0,.slice none 0 0,.slice none 0 0] 106,Ch.box bb2 (qA a_1 p2 p3 p4 p5 p6 k2 k3 k4 k5 k6) 34,Ch.grp (old w0) (FS F) [fct (a_2:(List Int)) [.slice p7 a_2.length k7],fct (a_1:qd) [.slice p2 a_1.Af.Aj.length k2,.slice p3 a_1.Aa.Ab.length k3,.slice p4 a_1.Aa.Ai.length k4,.slice p5 a_1.Aa.Ac.length k5,.slice p6 a_1.Ah.length k6],fct (a_0:Tl01Source) [.slice p1 a_0.code.length k1,.int .i64 a_0.at_,.int .i64 a_0.seed],same w0 w F]]) ?_ ?_
 ·refine qk rfl hF ?_ ?_<;>intro hF
  ·refine X0 2 rfl ?_
   replace h:=h.pick [1,0,2,3,4] rfl
   obtain ⟨o14,hr17,hF⟩:=qe hF
   obtain ⟨i33,i34,i35⟩:=o14
   refine nxC h ((qf (h.frG 4 2 1 rfl rfl rfl)).1) hr17 rfl rfl rfl fun w79 h=>zp2 rfl (zs 1 h rfl fun w80 h=>qa5 ?_)
   obtain rfl:=qc hF
   exact rG ⟨_,_,_,hK5,rfl,h⟩ rfl
  refine X0 6 rfl (qk rfl hF ?_ ?_)<;>intro hF
  ·refine qeg (qk rfl hF ?_ ?_)<;>intro hF
   ·refine X0 2 rfl ?_
    replace h:=h.pick [1,0,2,3,4] rfl
    obtain ⟨o15,hr18,hF⟩:=qe hF
    obtain ⟨i36,i37,i38⟩:=o15
    refine nxC h ((qf (h.frG 4 2 1 rfl rfl rfl)).1) hr18 rfl rfl rfl fun w81 h=>zp2 rfl (zs 1 h rfl fun w82 h=>qa5 ?_)
    obtain rfl:=qc hF
    exact rG ⟨_,_,_,hK5,rfl,h⟩ rfl
   refine qeg ?_
   replace h:=h.pick [1,0,2,3,4] rfl
   obtain rfl:=qc hF
   exact rG ⟨_,_,_,hK5,rfl,h⟩ rfl
  refine X0 4 rfl (qk rfl hF ?_ ?_)<;>intro hF
  ·refine X0 2 rfl ?_
   replace h:=h.pick [1,0,2,3,4] rfl
   obtain ⟨o16,hr19,hF⟩:=qe hF
   obtain ⟨i39,i40,i41⟩:=o16
   refine nxC h ((qf (h.frG 4 2 1 rfl rfl rfl)).1) hr19 rfl rfl rfl fun w83 h=>zp2 rfl (zs 1 h rfl fun w84 h=>qa5 ?_)
   obtain rfl:=qc hF
   exact rG ⟨_,_,_,hK5,rfl,h⟩ rfl
  refine qeg ?_
  replace h:=h.pick [1,0,2,3,4] rfl
  obtain rfl:=qc hF
  exact rG ⟨_,_,_,hK5,rfl,h⟩ rfl
 rintro e6 w85 ⟨i4,i5,i6,hF,rfl,h⟩
 subst hKF4
 refine X0 5 rfl ?_
 obtain ⟨o2,hr2,hF⟩:=qe hF
 obtain ⟨i7,i8,i9⟩:=o2
 refine nxC h ((qf (h.frG 4 2 1 rfl rfl rfl)).1) hr2 rfl rfl rfl fun w6 h=>X0 2 rfl ?_
 replace h:=h.nil (α:=Int)
 obtain ⟨KF3,hKF3,o12,hF,hK4⟩:=bindE hF
 refine qa8 (fun e w'=>∃ (S2:Nat→Prop) (p8:Option Addr) (ln1:Nat) (k8:Nat) (x1:(List Int)),KF3 x1=some r∧e=[(0,.pointer (some ⟨bb1,0,none⟩)),(2,.slice p7 a_2.length k7),(4,.pointer (some ⟨bb2,0,none⟩)),(6,.pointer (some ⟨bb3,0,none⟩)),(7,.pointer (some ⟨bb4,0,none⟩))]∧SH w0 w' [Ch.own S2 (x1:List Int) [.slice p8 ln1 k8],Ch.box bb1 [.slice p1 a_0.code.length k1,.int .i64 i8,.int .i64 i9] 184,Ch.box bb4 [.int .i64 (W64 (1+i1)),.int .i64 i6,.slice p8 ln1 k8,.slice none 0 0,.slice none 0 0] 106,Ch.box bb3 [.int .i64 0,.int .i64 0,.slice none 0 0,.slice none 0 0,.slice none 0 0] 106,Ch.box bb2 (qA a_1 p2 p3 p4 p5 p6 k2 k3 k4 k5 k6) 34,Ch.grp (old w0) (FS F) [fct (a_2:(List Int)) [.slice p7 a_2.length k7],fct (a_1:qd) [.slice p2 a_1.Af.Aj.length k2,.slice p3 a_1.Aa.Ab.length k3,.slice p4 a_1.Aa.Ai.length k4,.slice p5 a_1.Aa.Ac.length k5,.slice p6 a_1.Ah.length k6],fct (a_0:Tl01Source) [.slice p1 a_0.code.length k1,.int .i64 a_0.at_,.int .i64 a_0.seed],same w0 w F]]) ?_ ?_
 ·refine qk rfl hF ?_ ?_<;>intro hF
  ·refine X0 2 rfl ?_
   obtain ⟨y3,hy3,hF,he5,b6,_,q5,cs8,hp5,hq5,rfl,hc12⟩:=(qfz (h.grp 5 0 rfl rfl)).1.ix hF
   refine zx hp5 hq5 ⟨he5.1,qI he5.2.1 (qfz (h.grp 5 0 rfl rfl)).2⟩ rfl (zc 0 hc12 rfl (qm qb [.tmp 33] _ ([y3]:List Int) h rfl rfl rfl rfl rfl rfl rfl rfl rfl ⟨rfl,trivial⟩ rfl fun w76 p50 S48 h=>zp1 rfl (zs 3 h rfl fun w77 h=>qa5 ?_)))
   replace h:=h.pick [0,2,3,4,5,6] rfl
   obtain rfl:=qc hF
   exact rG ⟨_,_,_,_,_,hK4,rfl,h⟩ rfl
  refine qeg ?_
  obtain rfl:=qc hF
  exact rG ⟨_,_,_,_,_,hK4,rfl,h⟩ rfl
 rintro e5 w78 ⟨S2,p8,ln1,k8,x1,hF,rfl,h⟩
 subst hKF3
 obtain rfl:=(h.sl 0 rfl).2
 refine X0 4 rfl ?_
 replace h:=h.pick [1,0,2,3,4,5] rfl
 obtain ⟨o3,hr3,hF⟩:=qe hF
 obtain ⟨i10,i11,i12⟩:=o3
 refine nxC h ((qf (h.frG 5 2 1 rfl rfl rfl)).1) hr3 rfl rfl rfl fun w7 h=>X0 2 rfl ?_
 replace h:=h.nil (α:=Int)
 obtain ⟨KF2,hKF2,o11,hF,hK3⟩:=bindE hF
 refine qa8 (fun e w'=>∃ (S3:Nat→Prop) (p9:Option Addr) (ln2:Nat) (k9:Nat) (x2:(List Int)),KF2 x2=some r∧e=[(0,.pointer (some ⟨bb1,0,none⟩)),(2,.slice p7 a_2.length k7),(4,.pointer (some ⟨bb2,0,none⟩)),(6,.pointer (some ⟨bb3,0,none⟩)),(7,.pointer (some ⟨bb4,0,none⟩))]∧SH w0 w' [Ch.own S3 (x2:List Int) [.slice p9 ln2 k9],Ch.box bb1 [.slice p1 a_0.code.length k1,.int .i64 i11,.int .i64 i12] 184,Ch.own S2 (x1:List Int) [.slice p8 x1.length k8],Ch.box bb4 [.int .i64 (W64 (1+i1)),.int .i64 i6,.slice p8 x1.length k8,.slice none 0 0,.slice p9 ln2 k9] 106,Ch.box bb3 [.int .i64 0,.int .i64 0,.slice none 0 0,.slice none 0 0,.slice none 0 0] 106,Ch.box bb2 (qA a_1 p2 p3 p4 p5 p6 k2 k3 k4 k5 k6) 34,Ch.grp (old w0) (FS F) [fct (a_2:(List Int)) [.slice p7 a_2.length k7],fct (a_1:qd) [.slice p2 a_1.Af.Aj.length k2,.slice p3 a_1.Aa.Ab.length k3,.slice p4 a_1.Aa.Ai.length k4,.slice p5 a_1.Aa.Ac.length k5,.slice p6 a_1.Ah.length k6],fct (a_0:Tl01Source) [.slice p1 a_0.code.length k1,.int .i64 a_0.at_,.int .i64 a_0.seed],same w0 w F]]) ?_ ?_
 ·refine qk rfl hF ?_ ?_<;>intro hF
  ·refine X0 5 rfl ?_
   obtain ⟨y2,hy2,hF,he4,b5,_,q4,cs7,hp4,hq4,rfl,hc10⟩:=(qfz (h.grp 6 0 rfl rfl)).1.ix hF
   refine zx hp4 hq4 ⟨he4.1,qI he4.2.1 (qfz (h.grp 6 0 rfl rfl)).2⟩ rfl (zc 0 hc10 rfl (qm qb [.tmp 44] _ ([y2]:List Int) h rfl rfl rfl rfl rfl rfl rfl rfl rfl ⟨rfl,trivial⟩ rfl fun w73 p49 S47 h=>zp1 rfl (zs 4 h rfl fun w74 h=>qa5 ?_)))
   replace h:=h.pick [0,2,3,4,5,6,7] rfl
   obtain rfl:=qc hF
   exact rG ⟨_,_,_,_,_,hK3,rfl,h⟩ rfl
  refine qeg ?_
  obtain rfl:=qc hF
  exact rG ⟨_,_,_,_,_,hK3,rfl,h⟩ rfl
 rintro e4 w75 ⟨S3,p9,ln2,k9,x2,hF,rfl,h⟩
 subst hKF2
 obtain rfl:=(h.sl 0 rfl).2
 refine X0 5 rfl ?_
 replace h:=h.nil (α:=Int)
 obtain ⟨o4,hF,hK1⟩:=qe hF
 refine ql (rL (fun m e w'=>∃ (S4:Nat→Prop) (p10:Option Addr) (ln3:Nat) (k10:Nat) (x3:(List Int)) (i13:Int) (i14:Int) (i15:Int),qaZ a_0 a_2 m x3 i13 i14 i15=some o4∧e=[(0,.pointer (some ⟨bb1,0,none⟩)),(2,.slice p7 a_2.length k7),(4,.pointer (some ⟨bb2,0,none⟩)),(6,.pointer (some ⟨bb3,0,none⟩)),(7,.pointer (some ⟨bb4,0,none⟩)),(8,.int .i64 i15)]∧SH w0 w' [Ch.own S4 (x3:List Int) [.slice p10 ln3 k10],Ch.own S3 (x2:List Int) [.slice p9 x2.length k9],Ch.box bb1 [.slice p1 a_0.code.length k1,.int .i64 i13,.int .i64 i14] 184,Ch.own S2 (x1:List Int) [.slice p8 x1.length k8],Ch.box bb4 [.int .i64 (W64 (1+i1)),.int .i64 i6,.slice p8 x1.length k8,.slice p10 ln3 k10,.slice p9 x2.length k9] 106,Ch.box bb3 [.int .i64 0,.int .i64 0,.slice none 0 0,.slice none 0 0,.slice none 0 0] 106,Ch.box bb2 (qA a_1 p2 p3 p4 p5 p6 k2 k3 k4 k5 k6) 34,Ch.grp (old w0) (FS F) [fct (a_2:(List Int)) [.slice p7 a_2.length k7],fct (a_1:qd) [.slice p2 a_1.Af.Aj.length k2,.slice p3 a_1.Aa.Ab.length k3,.slice p4 a_1.Aa.Ai.length k4,.slice p5 a_1.Aa.Ac.length k5,.slice p6 a_1.Ah.length k6],fct (a_0:Tl01Source) [.slice p1 a_0.code.length k1,.int .i64 a_0.at_,.int .i64 a_0.seed],same w0 w F]]) n ⟨_,_,_,_,_,_,_,_,hF,rfl,h⟩ rfl ?_)
 rintro m1 e1 w8 ⟨S4,p10,ln3,k10,x3,i13,i14,i15,hF,rfl,h⟩
 obtain rfl:=(h.sl 0 rfl).2
 rcases m1 with _|m1
 ·cases hF
 refine X0 8 rfl (qk rfl hF ?_ ?_)<;>intro hF
 ·refine X0 4 rfl ?_
  obtain ⟨KF1,hKF1,o5,hF,hK2⟩:=bindE hF
  refine qa8 (fun e w'=>∃ (i16:Int) (i17:Int) (b1:Bool),KF1 (i16,i17,b1)=some o4∧e=[(0,.pointer (some ⟨bb1,0,none⟩)),(2,.slice p7 a_2.length k7),(4,.pointer (some ⟨bb2,0,none⟩)),(6,.pointer (some ⟨bb3,0,none⟩)),(7,.pointer (some ⟨bb4,0,none⟩)),(8,.int .i64 i15),(61,.bool b1)]∧SH w0 w' [Ch.box bb1 [.slice p1 a_0.code.length k1,.int .i64 i16,.int .i64 i17] 184,Ch.own S4 (x3:List Int) [.slice p10 x3.length k10],Ch.own S3 (x2:List Int) [.slice p9 x2.length k9],Ch.own S2 (x1:List Int) [.slice p8 x1.length k8],Ch.box bb4 [.int .i64 (W64 (1+i1)),.int .i64 i6,.slice p8 x1.length k8,.slice p10 x3.length k10,.slice p9 x2.length k9] 106,Ch.box bb3 [.int .i64 0,.int .i64 0,.slice none 0 0,.slice none 0 0,.slice none 0 0] 106,Ch.box bb2 (qA a_1 p2 p3 p4 p5 p6 k2 k3 k4 k5 k6) 34,Ch.grp (old w0) (FS F) [fct (a_2:(List Int)) [.slice p7 a_2.length k7],fct (a_1:qd) [.slice p2 a_1.Af.Aj.length k2,.slice p3 a_1.Aa.Ab.length k3,.slice p4 a_1.Aa.Ai.length k4,.slice p5 a_1.Aa.Ac.length k5,.slice p6 a_1.Ah.length k6],fct (a_0:Tl01Source) [.slice p1 a_0.code.length k1,.int .i64 a_0.at_,.int .i64 a_0.seed],same w0 w F]]) ?_ ?_
  ·refine X1 6 4 h rfl (qh (t:=57) hF rfl ?_ ?_)<;>intro hF
   ·refine X0 3 rfl ?_
    replace h:=h.pick [2,0,1,3,4,5,6,7] rfl
    obtain ⟨o6,hr7,hF⟩:=qe hF
    obtain ⟨i18,i19,i20⟩:=o6
    refine nxC h ((qf (h.frG 7 2 1 rfl rfl rfl)).1) hr7 rfl rfl rfl fun w54 h=>X0 4 rfl ?_
    obtain rfl:=qc hF
    exact rG ⟨_,_,_,hK2,rfl,h⟩ rfl
   refine X0 5 rfl ?_
   replace h:=h.pick [2,0,1,3,4,5,6,7] rfl
   obtain rfl:=qc hF
   exact rG ⟨_,_,_,hK2,rfl,h⟩ rfl
  rintro e3 w55 ⟨i16,i17,b1,hF,rfl,h⟩
  subst hKF1
  refine qk rfl hF ?_ ?_<;>intro hF
  ·obtain ⟨y1,hy1,hF⟩:=qe hF
   obtain ⟨x4,hx1,hF⟩:=qe hF
   obtain ⟨x5,hx2,hF⟩:=qe hF
   refine qa8 (fun e w'=>∃ (S24:Nat→Prop) (p30:Option Addr) (k21:Nat),e=[(0,.pointer (some ⟨bb1,0,none⟩)),(2,.slice p7 a_2.length k7),(4,.pointer (some ⟨bb2,0,none⟩)),(6,.pointer (some ⟨bb3,0,none⟩)),(7,.pointer (some ⟨bb4,0,none⟩)),(8,.int .i64 i15)]∧SH w0 w' [Ch.own S24 (x5:List Int) [.slice p30 x5.length k21],Ch.box bb1 [.slice p1 a_0.code.length k1,.int .i64 i16,.int .i64 i17] 184,Ch.own S3 (x2:List Int) [.slice p9 x2.length k9],Ch.own S2 (x1:List Int) [.slice p8 x1.length k8],Ch.box bb4 [.int .i64 (W64 (1+i1)),.int .i64 i6,.slice p8 x1.length k8,.slice p30 x5.length k21,.slice p9 x2.length k9] 106,Ch.box bb3 [.int .i64 0,.int .i64 0,.slice none 0 0,.slice none 0 0,.slice none 0 0] 106,Ch.box bb2 (qA a_1 p2 p3 p4 p5 p6 k2 k3 k4 k5 k6) 34,Ch.grp (old w0) (FS F) [fct (a_2:(List Int)) [.slice p7 a_2.length k7],fct (a_1:qd) [.slice p2 a_1.Af.Aj.length k2,.slice p3 a_1.Aa.Ab.length k3,.slice p4 a_1.Aa.Ai.length k4,.slice p5 a_1.Aa.Ac.length k5,.slice p6 a_1.Ah.length k6],fct (a_0:Tl01Source) [.slice p1 a_0.code.length k1,.int .i64 a_0.at_,.int .i64 a_0.seed],same w0 w F]]) ?_ ?_
   ·refine rA [19] [4] h rfl fun w14 h=>M4 1983 [0,1,2,3,4,5,7,8,9,10] 0 0 0 0 (h.pick [4] rfl) rfl ?_
    have he3:=qax hy1
    obtain ⟨b4,o_3,q3,cs6,hp3,hq3,-,hr6,hc5⟩:=(qfz (h.grp 7 0 rfl rfl)).1.at hy1
    obtain rfl:=hr6
    refine Ax 11 4031 hp3 hq3 ⟨he3.1,qI he3.2.1 (qfz (h.grp 7 0 rfl rfl)).2⟩ (h.pick [4] rfl) rfl (M1 200639 [16,17] 0 (h.pick [4] rfl) rfl (At 6 12 200703 204735 rfl ?_ ?_))
    ·refine qm qb [] _ ([]:List Int) h rfl rfl rfl rfl rfl rfl rfl rfl rfl trivial rfl fun w34 p31 S25 h=>Ag (h.pick [5] rfl) (Ao 12 204799 rfl (r_v (qfk qb (qoZ (w1:=w) (S1:=fun _=>False) (qfz (h.grp 8 0 rfl rfl)).1 hy1 hp3 hq3 rfl) (j:=0) rfl rfl rfl) rfl (Ag (h.pick [5] rfl) (Ao 13 212991 rfl (qm qb [.tmp 74] _ ([y1]:List Int) h rfl rfl rfl rfl rfl rfl rfl rfl rfl ⟨rfl,trivial⟩ rfl fun w35 p32 S26 h=>Ag (h.pick [6] rfl) (Ao 14 229375 rfl ?_))))))
     obtain ⟨g11,hx1⟩:=qr hx1
     refine qaf qb 3 h rfl (h.sl 0 rfl).1 (h.sl 0 rfl).2 rfl rfl rfl rfl rfl rfl rfl rfl rfl g11 hx1 rfl fun w36 p33 k22 S27 h=>Ag (h.pick [6] rfl) (Ao 15 262143 rfl ?_)
     obtain ⟨g12,hx2⟩:=qr hx2
     refine qaf qb 1 h rfl (h.sl 3 rfl).1 (h.sl 3 rfl).2 rfl rfl rfl rfl rfl rfl rfl rfl rfl g12 hx2 rfl fun w37 p34 k23 S28 h=>Ag (h.pick [6] rfl) (Aw 18 524287 (fun w' hw=>qat qb [0,1,2,3,4] [.tmp 63,.tmp 65,.tmp 67,.tmp 77,.tmp 79] rfl rfl rfl rfl rfl rfl rfl rfl) (h.pick [6] rfl) rfl ?_)
     refine Ao 19 1048575 rfl (zs 6 h rfl fun w38 h=>qeh (fun hs=>absurd (hs 19 (by decide)) (by decide)) (Ad ?_))
     replace h:=h.pick [1,2,4,5,6,7,8,9] rfl
     exact rG ⟨_,_,_,rfl,h⟩ rfl
    refine r_v (qfk qb (qoZ (w1:=w) (S1:=fun _=>False) (qfz (h.grp 7 0 rfl rfl)).1 hy1 hp3 hq3 rfl) (j:=0) rfl rfl rfl) rfl (Ag (h.pick [4] rfl) (At 6 13 204799 212927 rfl ?_ ?_))
    ·refine qm qb [] _ ([]:List Int) h rfl rfl rfl rfl rfl rfl rfl rfl rfl trivial rfl fun w39 p35 S29 h=>Ag (h.pick [5] rfl) (Ao 13 212991 rfl (qm qb [.tmp 74] _ ([y1]:List Int) h rfl rfl rfl rfl rfl rfl rfl rfl rfl ⟨rfl,trivial⟩ rfl fun w40 p36 S30 h=>Ag (h.pick [6] rfl) (Ao 14 229375 rfl ?_)))
     obtain ⟨g13,hx1⟩:=qr hx1
     refine qaf qb 3 h rfl (h.sl 0 rfl).1 (h.sl 0 rfl).2 rfl rfl rfl rfl rfl rfl rfl rfl rfl g13 hx1 rfl fun w41 p37 k24 S31 h=>Ag (h.pick [6] rfl) (Ao 15 262143 rfl ?_)
     obtain ⟨g14,hx2⟩:=qr hx2
     refine qaf qb 1 h rfl (h.sl 3 rfl).1 (h.sl 3 rfl).2 rfl rfl rfl rfl rfl rfl rfl rfl rfl g14 hx2 rfl fun w42 p38 k25 S32 h=>Ag (h.pick [6] rfl) (Aw 18 524287 (fun w' hw=>qat qb [0,1,2,3,4] [.tmp 63,.tmp 65,.tmp 67,.tmp 77,.tmp 79] rfl rfl rfl rfl rfl rfl rfl rfl) (h.pick [6] rfl) rfl ?_)
     refine Ao 19 1048575 rfl (zs 6 h rfl fun w43 h=>qeh (fun hs=>absurd (hs 19 (by decide)) (by decide)) (Ad ?_))
     replace h:=h.pick [1,2,4,5,6,7,8,9] rfl
     exact rG ⟨_,_,_,rfl,h⟩ rfl
    refine qm qb [.tmp 74] _ ([y1]:List Int) h rfl rfl rfl rfl rfl rfl rfl rfl rfl ⟨rfl,trivial⟩ rfl fun w44 p39 S33 h=>Ag (h.pick [5] rfl) (At 6 14 212991 229311 rfl ?_ ?_)
    ·refine qm qb [] _ ([]:List Int) h rfl rfl rfl rfl rfl rfl rfl rfl rfl trivial rfl fun w45 p40 S34 h=>Ag (h.pick [6] rfl) (Ao 14 229375 rfl ?_)
     obtain ⟨g15,hx1⟩:=qr hx1
     refine qaf qb 3 h rfl (h.sl 1 rfl).1 (h.sl 1 rfl).2 rfl rfl rfl rfl rfl rfl rfl rfl rfl g15 hx1 rfl fun w46 p41 k26 S35 h=>Ag (h.pick [6] rfl) (Ao 15 262143 rfl ?_)
     obtain ⟨g16,hx2⟩:=qr hx2
     refine qaf qb 0 h rfl (h.sl 3 rfl).1 (h.sl 3 rfl).2 rfl rfl rfl rfl rfl rfl rfl rfl rfl g16 hx2 rfl fun w47 p42 k27 S36 h=>Ag (h.pick [6] rfl) (Aw 18 524287 (fun w' hw=>qat qb [0,1,2,3,4] [.tmp 63,.tmp 65,.tmp 67,.tmp 77,.tmp 79] rfl rfl rfl rfl rfl rfl rfl rfl) (h.pick [6] rfl) rfl ?_)
     refine Ao 19 1048575 rfl (zs 6 h rfl fun w48 h=>qeh (fun hs=>absurd (hs 19 (by decide)) (by decide)) (Ad ?_))
     replace h:=h.pick [0,2,4,5,6,7,8,9] rfl
     exact rG ⟨_,_,_,rfl,h⟩ rfl
    obtain ⟨g17,hx1⟩:=qr hx1
    refine qaf qb 2 h rfl (h.sl 0 rfl).1 (h.sl 0 rfl).2 rfl rfl rfl rfl rfl rfl rfl rfl rfl g17 hx1 rfl fun w49 p43 k28 S37 h=>Ag (h.pick [5] rfl) (Ao 6 229375 rfl (qm qb [] _ ([]:List Int) h rfl rfl rfl rfl rfl rfl rfl rfl rfl trivial rfl fun w50 p44 S38 h=>Ag (h.pick [6] rfl) (Ao 15 262143 rfl ?_)))
    obtain ⟨g18,hx2⟩:=qr hx2
    refine qaf qb 0 h rfl (h.sl 3 rfl).1 (h.sl 3 rfl).2 rfl rfl rfl rfl rfl rfl rfl rfl rfl g18 hx2 rfl fun w51 p45 k29 S39 h=>Ag (h.pick [6] rfl) (Aw 18 524287 (fun w' hw=>qat qb [0,1,2,3,4] [.tmp 63,.tmp 65,.tmp 67,.tmp 77,.tmp 79] rfl rfl rfl rfl rfl rfl rfl rfl) (h.pick [6] rfl) rfl ?_)
    refine Ao 19 1048575 rfl (zs 6 h rfl fun w52 h=>qeh (fun hs=>absurd (hs 19 (by decide)) (by decide)) (Ad ?_))
    replace h:=h.pick [0,2,4,5,6,7,8,9] rfl
    exact rG ⟨_,_,_,rfl,h⟩ rfl
   rintro e2 w53 ⟨S24,p30,k21,rfl,h⟩
   refine X0 6 rfl ?_
   replace h:=h.pick [0,2,1,3,4,5,6,7] rfl
   exact rK ⟨_,_,_,_,_,_,_,_,hF,rfl,h⟩ rfl
  refine X0 7 rfl ?_
  replace h:=h.pick [1,2,0,3,4,5,6,7] rfl
  exact rK ⟨_,_,_,_,_,_,_,_,hF,rfl,h⟩ rfl
 refine qp rfl ?_
 obtain rfl:=qc hF;replace hF:=hK1
 refine X0 4 rfl ?_
 replace h:=h.pick [2,0,1,3,4,5,6,7] rfl
 obtain ⟨o7,hr8,hF⟩:=qe hF
 obtain ⟨i21,i22,i23⟩:=o7
 refine nxC h ((qf (h.frG 7 2 1 rfl rfl rfl)).1) hr8 rfl rfl rfl fun w56 h=>X0 7 rfl (qk rfl hF ?_ ?_)<;>intro hF
 ·refine X1 3 6 h rfl (zcI h hF (qaK (h.grp 7 1 rfl rfl)) rfl fun r1 w57 h hF=>?_)
  obtain ⟨o8,hr10,hF⟩:=qe hF
  obtain ⟨i24,i25,i26⟩:=o8
  refine nxC h ((qf (h.frG 7 2 1 rfl rfl rfl)).1) hr10 rfl rfl rfl fun w58 h=>qm qb [.tmp 88] _ ([i24]:List Int) h rfl rfl rfl rfl rfl rfl rfl rfl rfl ⟨rfl,trivial⟩ rfl fun w59 p46 S40 h=>zp1 rfl (zs 5 h rfl fun w60 h=>X1 5 5 h rfl (zs 6 h rfl fun w61 h=>qa5 ?_))
  have hk1:=h
  obtain ⟨S41,h⟩:=h.gather [1,4,5,6,7,8] (qeP (⟨W64 (1+i1),i6,([i24]:List Int),x3,x2⟩:qa) h (qu (S:=fun _=>False) rfl) (qu (S:=fun _=>False) rfl) (qC 0 h rfl) (qC 2 h rfl) (qC 3 h rfl) (by rfl) (by rfl) (by rfl) (by rfl)) rfl
  obtain rfl:=qc hF
  replace h:=h.pick [0,1,6] rfl
  exact qbx qb [GoT.v qa [.int .i64 (W64 (1+i1)),.int .i64 i6,.slice p46 1 1,.slice p10 x3.length k10,.slice p9 x2.length k9]] ⟨⟨_,_,_,rfl,rfl,hk1.box 6 rfl,rfl⟩,trivial⟩ ⟨_,_,rfl,SH.unfr 1 3 h0 h rfl rfl⟩
 refine X0 5 rfl (qk rfl hF ?_ ?_)<;>intro hF
 ·refine X1 3 6 h rfl (zcI h hF (qaK (h.grp 7 1 rfl rfl)) rfl fun r2 w62 h hF=>?_)
  obtain ⟨o9,hr12,hF⟩:=qe hF
  obtain ⟨i27,i28,i29⟩:=o9
  refine nxC h ((qf (h.frG 7 2 1 rfl rfl rfl)).1) hr12 rfl rfl rfl fun w63 h=>qm qb [.tmp 96] _ ([i27]:List Int) h rfl rfl rfl rfl rfl rfl rfl rfl rfl ⟨rfl,trivial⟩ rfl fun w64 p47 S42 h=>zp1 rfl (zs 5 h rfl fun w65 h=>X1 5 5 h rfl (zs 6 h rfl fun w66 h=>qa5 ?_))
  have hk2:=h
  obtain ⟨S43,h⟩:=h.gather [1,3,5,6,7,8] (qeP (⟨W64 (1+i1),i6,x1,x3,([i27]:List Int)⟩:qa) h (qu (S:=fun _=>False) rfl) (qu (S:=fun _=>False) rfl) (qC 4 h rfl) (qC 2 h rfl) (qC 0 h rfl) (by rfl) (by rfl) (by rfl) (by rfl)) rfl
  obtain rfl:=qc hF
  replace h:=h.pick [0,1,6] rfl
  exact qbx qb [GoT.v qa [.int .i64 (W64 (1+i1)),.int .i64 i6,.slice p8 x1.length k8,.slice p10 x3.length k10,.slice p47 1 1]] ⟨⟨_,_,_,rfl,rfl,hk2.box 6 rfl,rfl⟩,trivial⟩ ⟨_,_,rfl,SH.unfr 1 3 h0 h rfl rfl⟩
 refine X0 5 rfl (qk rfl hF ?_ ?_)<;>intro hF
 ·refine X1 3 6 h rfl (zcI h hF (qaK (h.grp 7 1 rfl rfl)) rfl fun r3 w67 h hF=>?_)
  obtain ⟨o10,hr14,hF⟩:=qe hF
  obtain ⟨i30,i31,i32⟩:=o10
  refine nxC h ((qf (h.frG 7 2 1 rfl rfl rfl)).1) hr14 rfl rfl rfl fun w68 h=>qm qb [.tmp 104] _ ([i30]:List Int) h rfl rfl rfl rfl rfl rfl rfl rfl rfl ⟨rfl,trivial⟩ rfl fun w69 p48 S44 h=>zp1 rfl (zs 5 h rfl fun w70 h=>X1 5 5 h rfl (zs 6 h rfl fun w71 h=>qa5 ?_))
  have hk3:=h
  obtain ⟨S45,h⟩:=h.gather [1,2,5,6,7,8] (qeP (⟨W64 (1+i1),i6,x1,([i30]:List Int),x2⟩:qa) h (qu (S:=fun _=>False) rfl) (qu (S:=fun _=>False) rfl) (qC 4 h rfl) (qC 0 h rfl) (qC 3 h rfl) (by rfl) (by rfl) (by rfl) (by rfl)) rfl
  obtain rfl:=qc hF
  replace h:=h.pick [0,1,6] rfl
  exact qbx qb [GoT.v qa [.int .i64 (W64 (1+i1)),.int .i64 i6,.slice p8 x1.length k8,.slice p48 1 1,.slice p9 x2.length k9]] ⟨⟨_,_,_,rfl,rfl,hk3.box 6 rfl,rfl⟩,trivial⟩ ⟨_,_,rfl,SH.unfr 1 3 h0 h rfl rfl⟩
 refine X1 5 4 h rfl (zs 5 h rfl fun w72 h=>qa5 ?_)
 have hk4:=h
 obtain ⟨S46,h⟩:=h.gather [0,4,5,6,7] (qeP (⟨W64 (1+i1),i6,x1,x3,x2⟩:qa) h (qu (S:=fun _=>False) rfl) (qu (S:=fun _=>False) rfl) (qC 3 h rfl) (qC 1 h rfl) (qC 2 h rfl) (by rfl) (by rfl) (by rfl) (by rfl)) rfl
 obtain rfl:=qc hF
 replace h:=h.pick [0,1,5] rfl
 exact qbx qb [GoT.v qa [.int .i64 (W64 (1+i1)),.int .i64 i6,.slice p8 x1.length k8,.slice p10 x3.length k10,.slice p9 x2.length k9]] ⟨⟨_,_,_,rfl,rfl,hk4.box 5 rfl,rfl⟩,trivial⟩ ⟨_,_,rfl,SH.unfr 1 3 h0 h rfl rfl⟩
def qcD:Nat→(List qa)→Option (List qa)
 | 0,_=>none
 | n+1,x3 =>
  bif decide ((x3.length:Int)≤6) then
   (idx x3 0).bind fun y4 =>
   (appS x3 ([y4]:List qa)).bind fun x4 =>
   qcD n x4
  else
   some x3
def qcy (s:Tl01Source) (b:qd) (path:(List Int)):Nat→(List qa)→Int→Int→Int→Option ((List qa) × Int × Int × Int)
 | 0,_,_,_,_=>none
 | n+1,x1,i4,i5,i6 =>
  bif decide (i6 > 0) then
   (qea n (⟨s.code,i4,i5⟩:Tl01Source) b path).bind fun o=>match o with
    | (r1,i7,i8) =>
     (appS x1 ([r1]:List qa)).bind fun x2 =>
     qcy s b path n x2 i7 i8 (W64 (i6-1))
  else
   some (x1,i4,i5,i6)
def qgl (n:Nat) (s:Tl01Source) (b:qd) (path:(List Int)):Option ((List qa) × Int × Int) :=
 (qn n (⟨s.code,s.at_,s.seed⟩:Tl01Source) 5).bind fun o=>match o with
  | (i1,i2,i3) =>
   (qcy s b path n ([]:List qa) i2 i3 i1).bind fun o=>match o with
   | (x1,i4,i5,_) =>
    (
     bif decide ((x1.length:Int) > 0) then
      (qn n (⟨s.code,i4,i5⟩:Tl01Source) 16).bind fun o=>match o with
       | (i17,i18,i19) =>
        some (i18,i19,(i17==0))
     else
      some (i4,i5,false)).bind fun o=>match o with
     | (i9,i10,b1) =>
      bif b1 then
       (qn n (⟨s.code,i9,i10⟩:Tl01Source) 4).bind fun o=>match o with
        | (i11,i12,i13) =>
         bif (i11==0) then
          (qn n (⟨s.code,i12,i13⟩:Tl01Source) 2).bind fun o=>match o with
           | (i14,i15,i16) =>
            (idx x1 0).bind fun y1 =>
            some ((setS x1 0 (⟨W64 (5*i14),y1.Bc,y1.As,y1.Am,y1.To⟩:qa)),i15,i16)
         else
          bif (i11==1) then
           (idx x1 0).bind fun y2 =>
           some ((setS x1 0 (⟨y2.Ar,(-1),y2.As,y2.Am,y2.To⟩:qa)),i12,i13)
          else
           bif (i11==2) then
            (qab n b).bind fun r2 =>
            (idx x1 0).bind fun y3 =>
            some ((setS x1 0 (⟨y3.Ar,y3.Bc,y3.As,y3.Am,([r2]:List Int)⟩:qa)),i12,i13)
           else
            (qcD n x1).bind fun x3 =>
            some (x3,i12,i13)
      else
       some (x1,i9,i10)
theorem qkr {n:Nat} {w0 w:World} {F:List Ch} {s:Tl01Source} {bb1:Nat} {p1:Option Addr} {k1:Nat} {b:qd} {cs1:List Value} {path:(List Int)} {cs2:List Value} (h0:SH w0 w (Ch.box bb1 (qan s p1 k1) 184::F)) (ha1:GoT.R w (Fr w0 F) s [.slice p1 s.code.length k1,.int .i64 s.at_,.int .i64 s.seed]) (ha2:GoT.R w (Fr w0 F) b cs1) (ha3:GoT.R w (Fr w0 F) path cs2) {r:((List qa) × Int × Int)} (hF:qgl n s b path=some r):RetW Tryz.prog 72 [.pointer (some ⟨bb1,0,none⟩),GoT.v qd cs1,GoT.v (List Int) cs2] w (fun us w'=>∃ (S1:Nat→Prop) (cs3:List Value),us=[GoT.v (List qa) cs3]∧SH w0 w' (Ch.grp (fun _=>False) S1 [fct (r.1:(List qa)) cs3]::Ch.box bb1 [.slice p1 s.code.length k1,.int .i64 r.2.1,.int .i64 r.2.2] 184::F)):=by
 have h:=SH.frm1 h0 ha1
 have hz1:=ha2
 obtain ⟨p2,k2,p3,k3,p4,k4,p5,k5,p6,k6,rfl,s1,s2,s3,s4,s5⟩:=qD ha2
 replace h:=h.grpAdd 1 rfl hz1
 have hz2:=ha3
 obtain ⟨p7,k7,rfl,s6⟩:=ha3
 replace h:=h.grpAdd 1 rfl hz2
 replace h:SH _ _ [Ch.box bb1 (qan s p1 k1) 184,Ch.grp (old w0) (FS F) [fct (path:(List Int)) [.slice p7 path.length k7],fct (b:qd) [.slice p2 b.Af.Aj.length k2,.slice p3 b.Aa.Ab.length k3,.slice p4 b.Aa.Ai.length k4,.slice p5 b.Aa.Ac.length k5,.slice p6 b.Ah.length k6],fct (s:Tl01Source) [.slice p1 s.code.length k1,.int .i64 s.at_,.int .i64 s.seed],same w0 w F]]:=h
 refine qbr Tryz.func72 rfl (m:=64) rfl rfl (zSR (qO h rfl rfl fun w1 bb2 h=>X0 4 rfl (qdV qb [] _ ([]:List qa) [0,1,2] h rfl rfl rfl rfl rfl rfl rfl rfl rfl qgr rfl rfl fun w2 p8 S2 h=>X0 6 rfl ?_)))
 replace h:=h.pick [2,0,1,3] rfl
 obtain ⟨o1,hr1,hF⟩:=qe hF
 obtain ⟨i1,i2,i3⟩:=o1
 refine nxC h ((qf (h.frG 3 2 1 rfl rfl rfl)).1) hr1 rfl rfl rfl fun w3 h=>X0 2 rfl ?_
 obtain ⟨o2,hF,hK1⟩:=qe hF
 refine ql (rL (fun m e w'=>∃ (S3:Nat→Prop) (p9:Option Addr) (ln1:Nat) (k8:Nat) (x1:(List qa)) (i4:Int) (i5:Int) (i6:Int),qcy s b path m x1 i4 i5 i6=some o2∧e=[(0,.pointer (some ⟨bb1,0,none⟩)),(2,.slice p7 path.length k7),(4,.pointer (some ⟨bb2,0,none⟩)),(7,.slice p9 ln1 k8),(8,.int .i64 i6)]∧SH w0 w' [Ch.box bb1 [.slice p1 s.code.length k1,.int .i64 i4,.int .i64 i5] 184,Ch.own S3 (x1:List qa) [.slice p9 ln1 k8],Ch.box bb2 (qA b p2 p3 p4 p5 p6 k2 k3 k4 k5 k6) 34,Ch.grp (old w0) (FS F) [fct (path:(List Int)) [.slice p7 path.length k7],fct (b:qd) [.slice p2 b.Af.Aj.length k2,.slice p3 b.Aa.Ab.length k3,.slice p4 b.Aa.Ai.length k4,.slice p5 b.Aa.Ac.length k5,.slice p6 b.Ah.length k6],fct (s:Tl01Source) [.slice p1 s.code.length k1,.int .i64 s.at_,.int .i64 s.seed],same w0 w F]]) n ⟨_,_,_,_,_,_,_,_,hF,rfl,h⟩ rfl ?_)
 rintro m1 e1 w4 ⟨S3,p9,ln1,k8,x1,i4,i5,i6,hF,rfl,h⟩
 obtain rfl:=(h.sl 1 rfl).2
 rcases m1 with _|m1
 ·cases hF
 refine X0 6 rfl (qk rfl hF ?_ ?_)<;>intro hF
 ·refine X1 8 2 h rfl ?_
  obtain ⟨o3,hr2,hF⟩:=qe hF
  obtain ⟨r1,i7,i8⟩:=o3
  refine qaV (cB 131 rfl) (qiL (a_0:=(⟨s.code,i4,i5⟩:Tl01Source)) (a_1:=b) (a_2:=path) h (show GoT.R _ _ ((⟨s.code,i4,i5⟩:Tl01Source):Tl01Source) _ from ⟨[.slice p1 s.code.length k1],[.int .i64 i4,.int .i64 i5],rfl,⟨_,_,rfl,(qf (h.frG 3 2 1 rfl rfl rfl)).1⟩,⟨[.int .i64 i4],[.int .i64 i5],rfl,rfl,rfl⟩⟩) (h.frG 3 1 1 rfl rfl rfl) (h.frG 3 0 1 rfl rfl rfl) hr2) rfl rfl rfl rfl ?_
  rintro w5 us2 ⟨S4,cs4,rfl,h⟩
  obtain ⟨p10,k9,p11,k10,p12,k11,rfl,-,-,-⟩:=qJ (h.own 0 rfl)
  replace h:SH _ _ [Ch.own S4 (r1:qa) (qgh r1 p10 p11 p12 k9 k10 k11),Ch.box bb1 [.slice p1 s.code.length k1,.int .i64 i7,.int .i64 i8] 184,Ch.own S3 (x1:List qa) [.slice p9 x1.length k8],Ch.box bb2 (qA b p2 p3 p4 p5 p6 k2 k3 k4 k5 k6) 34,Ch.grp (old w0) (FS F) [fct (path:(List Int)) [.slice p7 path.length k7],fct (b:qd) [.slice p2 b.Af.Aj.length k2,.slice p3 b.Aa.Ab.length k3,.slice p4 b.Aa.Ai.length k4,.slice p5 b.Aa.Ac.length k5,.slice p6 b.Ah.length k6],fct (s:Tl01Source) [.slice p1 s.code.length k1,.int .i64 s.at_,.int .i64 s.seed],same w0 w F]]:=h
  refine qdV qb [.tmp 20] _ ([r1]:List qa) [1,2,3,4] h rfl rfl rfl rfl rfl rfl rfl rfl rfl (qcn (qC 0 h rfl) qgr rfl) rfl rfl fun w6 p13 S5 h=>?_
  obtain ⟨x2,hx1,hF⟩:=qe hF
  obtain ⟨g1,hx1⟩:=qr hx1
  replace h:=h.pick [0,2,1,3,4] rfl
  refine qkV qb h rfl rfl rfl rfl rfl rfl rfl rfl rfl g1 hx1 rfl fun w7 p14 k12 S6 h=>X0 8 rfl ?_
  replace h:=h.pick [1,0,2,3] rfl
  exact rK ⟨_,_,_,_,_,_,_,_,hF,rfl,h⟩ rfl
 refine qp rfl ?_
 obtain rfl:=qc hF;replace hF:=hK1
 refine zSS ?_
 obtain ⟨KF1,hKF1,o7,hF,hK3⟩:=bindE hF
 refine qa8 (fun e w'=>∃ (i9:Int) (i10:Int) (b1:Bool),KF1 (i9,i10,b1)=some r∧e=[(0,.pointer (some ⟨bb1,0,none⟩)),(4,.pointer (some ⟨bb2,0,none⟩)),(7,.slice p9 x1.length k8),(30,.bool b1)]∧SH w0 w' [Ch.box bb1 [.slice p1 s.code.length k1,.int .i64 i9,.int .i64 i10] 184,Ch.own S3 (x1:List qa) [.slice p9 x1.length k8],Ch.box bb2 (qA b p2 p3 p4 p5 p6 k2 k3 k4 k5 k6) 34,Ch.grp (old w0) (FS F) [fct (b:qd) [.slice p2 b.Af.Aj.length k2,.slice p3 b.Aa.Ab.length k3,.slice p4 b.Aa.Ai.length k4,.slice p5 b.Aa.Ac.length k5,.slice p6 b.Ah.length k6],fct (s:Tl01Source) [.slice p1 s.code.length k1,.int .i64 s.at_,.int .i64 s.seed],same w0 w F]]) ?_ ?_
 ·refine X0 5 rfl (qh (t:=26) hF rfl ?_ ?_)<;>intro hF
  ·refine X0 3 rfl ?_
   obtain ⟨o8,hr8,hF⟩:=qe hF
   obtain ⟨i17,i18,i19⟩:=o8
   refine nxC h ((qf (h.frG 3 2 1 rfl rfl rfl)).1) hr8 rfl rfl rfl fun w18 h=>X0 4 rfl ?_
   replace h:=h.grpKeep [1,2,3] 3 rfl
   obtain rfl:=qc hF
   exact rG ⟨_,_,_,hK3,rfl,h⟩ rfl
  refine X0 5 rfl ?_
  replace h:=h.grpKeep [1,2,3] 3 rfl
  obtain rfl:=qc hF
  exact rG ⟨_,_,_,hK3,rfl,h⟩ rfl
 rintro e3 w19 ⟨i9,i10,b1,hF,rfl,h⟩
 subst hKF1
 refine qk rfl hF ?_ ?_<;>intro hF
 ·refine X0 3 rfl ?_
  obtain ⟨o4,hr3,hF⟩:=qe hF
  obtain ⟨i11,i12,i13⟩:=o4
  refine nxC h ((qf (h.frG 3 1 1 rfl rfl rfl)).1) hr3 rfl rfl rfl fun w8 h=>X0 7 rfl (qk rfl hF ?_ ?_)<;>intro hF
  ·refine X0 3 rfl ?_
   obtain ⟨o5,hr4,hF⟩:=qe hF
   obtain ⟨i14,i15,i16⟩:=o5
   refine nxC h ((qf (h.frG 3 1 1 rfl rfl rfl)).1) hr4 rfl rfl rfl fun w9 h=>zp1 rfl ?_
   obtain ⟨y1,hy1,hF⟩:=qe hF
   have he1:=qax hy1
   replace h:=h.pick [1,0,2,3] rfl
   obtain ⟨S7,S8,cs5,h⟩:=h.take hy1
   obtain ⟨p15,k13,p16,k14,p17,k15,rfl,-,-,-⟩:=qJ (h.own 0 rfl)
   obtain ⟨S9,S10,S11,h⟩:=qhp h
   obtain ⟨b2,hp1,-,-,hl2⟩:=h.holeAt 3 rfl
   obtain ⟨q1,hq1⟩:∃ q,q=0+(0:Int).toNat*GoT.k qa:=⟨_,rfl⟩
   refine zx hp1 hq1 ⟨he1.1,qI he1.2.1 hl2⟩ rfl (zp1 rfl (qjb qb 3 0 h rfl hp1 hq1 rfl rfl rfl rfl rfl rfl fun w10 h=>X0 7 rfl ?_))
   obtain ⟨S12,h⟩:=h.gather [3,4,5,6] (qeP (⟨W64 (5*i14),y1.Bc,y1.As,y1.Am,y1.To⟩:qa) h (qu (S:=fun _=>False) rfl) (qu (S:=fun _=>False) rfl) (qC 2 h rfl) (qC 1 h rfl) (qC 0 h rfl) (by rfl) (by rfl) (by rfl) (by rfl)) rfl
   replace h:=h.put
   obtain ⟨S13,h⟩:=qjV (S:=_) h
   replace h:=h.frzI 0 rfl
   replace h:=h.grpAdd 0 rfl (x:=((setS x1 0 (⟨W64 (5*i14),y1.Bc,y1.As,y1.Am,y1.To⟩:qa)):(List qa))) (h.grpS 0 0 rfl rfl)
   replace h:=h.grpKeep [0] 0 rfl
   obtain rfl:=qc hF
   replace h:=h.pick [0,1,3] rfl
   exact qbx qb [GoT.v (List qa) [.slice p9 x1.length k8]] ⟨rfl,trivial⟩ ⟨_,_,rfl,SH.unfr 1 2 h0 h rfl rfl⟩
  refine X0 5 rfl (qk rfl hF ?_ ?_)<;>intro hF
  ·refine X0 2 rfl ?_
   obtain ⟨y2,hy2,hF⟩:=qe hF
   have he2:=qax hy2
   replace h:=h.pick [1,0,2,3] rfl
   obtain ⟨S14,S15,cs6,h⟩:=h.take hy2
   obtain ⟨p18,k16,p19,k17,p20,k18,rfl,-,-,-⟩:=qJ (h.own 0 rfl)
   obtain ⟨S16,S17,S18,h⟩:=qhp h
   obtain ⟨b3,hp2,-,-,hl4⟩:=h.holeAt 3 rfl
   obtain ⟨q2,hq2⟩:∃ q,q=0+(0:Int).toNat*GoT.k qa:=⟨_,rfl⟩
   refine zx hp2 hq2 ⟨he2.1,qI he2.2.1 hl4⟩ rfl (zp1 rfl (qjb qb 3 1 h rfl hp2 hq2 rfl rfl rfl rfl rfl rfl fun w11 h=>X0 7 rfl ?_))
   obtain ⟨S19,h⟩:=h.gather [3,4,5,6] (qeP (⟨y2.Ar,(-1),y2.As,y2.Am,y2.To⟩:qa) h (qu (S:=fun _=>False) rfl) (qu (S:=fun _=>False) rfl) (qC 2 h rfl) (qC 1 h rfl) (qC 0 h rfl) (by rfl) (by rfl) (by rfl) (by rfl)) rfl
   replace h:=h.put
   obtain ⟨S20,h⟩:=qjV (S:=_) h
   replace h:=h.frzI 0 rfl
   replace h:=h.grpAdd 0 rfl (x:=((setS x1 0 (⟨y2.Ar,(-1),y2.As,y2.Am,y2.To⟩:qa)):(List qa))) (h.grpS 0 0 rfl rfl)
   replace h:=h.grpKeep [0] 0 rfl
   obtain rfl:=qc hF
   replace h:=h.pick [0,1,3] rfl
   exact qbx qb [GoT.v (List qa) [.slice p9 x1.length k8]] ⟨rfl,trivial⟩ ⟨_,_,rfl,SH.unfr 1 2 h0 h rfl rfl⟩
  refine X0 5 rfl (qk rfl hF ?_ ?_)<;>intro hF
  ·refine X1 3 2 h rfl (zcI h hF (qaK (h.grp 3 0 rfl rfl)) rfl fun r2 w12 h hF=>qm qb [.tmp 59] _ ([r2]:List Int) h rfl rfl rfl rfl rfl rfl rfl rfl rfl ⟨rfl,trivial⟩ rfl fun w13 p21 S21 h=>?_)
   obtain ⟨y3,hy3,hF⟩:=qe hF
   have he3:=qax hy3
   replace h:=h.pick [2,0,1,3,4] rfl
   obtain ⟨S22,S23,cs7,h⟩:=h.take hy3
   obtain ⟨p22,k19,p23,k20,p24,k21,rfl,-,-,-⟩:=qJ (h.own 0 rfl)
   obtain ⟨S24,S25,S26,h⟩:=qhp h
   obtain ⟨b4,hp3,-,-,hl6⟩:=h.holeAt 3 rfl
   obtain ⟨q3,hq3⟩:∃ q,q=0+(0:Int).toNat*GoT.k qa:=⟨_,rfl⟩
   refine zx hp3 hq3 ⟨he3.1,qI he3.2.1 hl6⟩ rfl (zp1 rfl (qjb qb 3 4 h rfl hp3 hq3 rfl rfl rfl rfl rfl rfl fun w14 h=>?_))
   replace h:SH _ _ [Ch.own S26 (y3.To:List Int) [.slice p24 y3.To.length k21],Ch.own S25 (y3.Am:List Int) [.slice p23 y3.Am.length k20],Ch.own S24 (y3.As:List Int) [.slice p22 y3.As.length k19],Ch.hole S23 (x1:List qa) p9 x1.length k8 (0:Int).toNat [.int .i64 y3.Ar,.int .i64 y3.Bc,.slice p22 y3.As.length k19,.slice p23 y3.Am.length k20,.slice p21 1 1],Ch.own S21 (([r2]:List Int):List Int) [.slice p21 1 1],Ch.box bb1 [.slice p1 s.code.length k1,.int .i64 i12,.int .i64 i13] 184,Ch.box bb2 (qA b p2 p3 p4 p5 p6 k2 k3 k4 k5 k6) 34,Ch.grp (old w0) (FS F) [fct (b:qd) [.slice p2 b.Af.Aj.length k2,.slice p3 b.Aa.Ab.length k3,.slice p4 b.Aa.Ai.length k4,.slice p5 b.Aa.Ac.length k5,.slice p6 b.Ah.length k6],fct (s:Tl01Source) [.slice p1 s.code.length k1,.int .i64 s.at_,.int .i64 s.seed],same w0 w F]]:=h
   refine X0 7 rfl ?_
   obtain ⟨S27,h⟩:=h.gather [0,3,5,6,7] (qeP (⟨y3.Ar,y3.Bc,y3.As,y3.Am,([r2]:List Int)⟩:qa) h (qu (S:=fun _=>False) rfl) (qu (S:=fun _=>False) rfl) (qC 2 h rfl) (qC 1 h rfl) (qC 4 h rfl) (by rfl) (by rfl) (by rfl) (by rfl)) rfl
   replace h:=h.pick [0,2,1,3,4,5] rfl
   replace h:=h.put
   obtain ⟨S28,h⟩:=qjV (S:=_) h
   replace h:=h.frzI 0 rfl
   replace h:=h.grpAdd 0 rfl (x:=((setS x1 0 (⟨y3.Ar,y3.Bc,y3.As,y3.Am,([r2]:List Int)⟩:qa)):(List qa))) (h.grpS 0 0 rfl rfl)
   replace h:=h.grpKeep [0] 0 rfl
   obtain rfl:=qc hF
   replace h:=h.pick [0,2,4] rfl
   exact qbx qb [GoT.v (List qa) [.slice p9 x1.length k8]] ⟨rfl,trivial⟩ ⟨_,_,rfl,SH.unfr 1 2 h0 h rfl rfl⟩
  replace h:=h.grpKeep [1,2] 3 rfl
  replace h:=h.pick [1,0,2,3] rfl
  obtain ⟨S29,S30,h,-⟩:=h.toRowX
  obtain ⟨o6,hF,hK2⟩:=qe hF
  refine ql ?_
  replace h:=h.pick [0,1,3] rfl
  refine rL (fun m e w'=>∃ (S31:Nat→Prop) (S32:Nat→Prop) (p25:Option Addr) (k22:Nat) (x3:(List qa)),qcD m x3=some o6∧e=[(7,.slice p25 x3.length k22)]∧SH w0 w' [Ch.rowX S31 S32 (x3:List qa) p25 k22 [],Ch.box bb1 [.slice p1 s.code.length k1,.int .i64 i12,.int .i64 i13] 184,Ch.grp (old w0) (FS F) [fct (s:Tl01Source) [.slice p1 s.code.length k1,.int .i64 s.at_,.int .i64 s.seed],same w0 w F]]) n ⟨_,_,_,_,_,hF,rfl,h⟩ rfl ?_
  rintro m2 e2 w15 ⟨S31,S32,p25,k22,x3,hF,rfl,h⟩
  rcases m2 with _|m2
  ·cases hF
  refine X0 7 rfl (qk rfl hF ?_ ?_)<;>intro hF
  ·refine X0 5 rfl ?_
   obtain ⟨y4,hy4,hF⟩:=qe hF
   have he4:=qax hy4
   obtain ⟨b5,o_1,q4,cs8,hp4,hq4,-,hr6,hc7⟩:=h.atX 0 rfl hy4
   have hr7:=hr6
   obtain ⟨p26,k23,p27,k24,p28,k25,rfl,s16,s17,s18⟩:=qJ hr6
   replace h:=h.xAdd 0 rfl hr7
   refine zxe hp4 hq4 he4 rfl (zc 0 hc7 rfl (qm qb [.tmp 39] _ ([⟨[.int .i64 y4.Ar,.int .i64 y4.Bc,.slice p26 y4.As.length k23,.slice p27 y4.Am.length k24,.slice p28 y4.To.length k25]⟩]:List (Raw qa)) h rfl rfl rfl rfl rfl rfl rfl rfl rfl ⟨qtA (h.xS 0 0 rfl rfl),trivial⟩ rfl fun w16 p29 S33 h=>?_))
   obtain ⟨x4,hx2,hF⟩:=qe hF
   obtain ⟨g2,hx2⟩:=qr hx2
   replace h:=h.pick [1,0,2,3] rfl
   refine qtv (ys:=([y4]:List qa)) qb h ⟨(h.xS 0 0 rfl rfl),trivial⟩ rfl rfl rfl rfl rfl rfl rfl rfl rfl rfl g2 hx2 rfl fun w17 p30 k26 S34 h=>X0 3 rfl ?_
   replace h:=h.xKeep [] 0 rfl
   exact rK ⟨_,_,_,_,_,hF,rfl,h⟩ rfl
  refine qp rfl ?_
  obtain rfl:=qc hF;replace hF:=hK2
  refine X0 6 rfl ?_
  replace h:=h.frzX 0 rfl
  replace h:=h.grpAdd 0 rfl (x:=(x3:(List qa))) (h.grpS 0 0 rfl rfl)
  replace h:=h.grpKeep [0] 0 rfl
  obtain rfl:=qc hF
  exact qbx qb [GoT.v (List qa) [.slice p25 x3.length k22]] ⟨rfl,trivial⟩ ⟨_,_,rfl,SH.unfr 1 1 h0 h rfl rfl⟩
 refine X0 6 rfl ?_
 replace h:=h.frzI 1 rfl
 replace h:=h.grpAdd 1 rfl (x:=(x1:(List qa))) (h.grpS 1 0 rfl rfl)
 replace h:=h.grpKeep [0] 1 rfl
 obtain rfl:=qc hF
 replace h:=h.pick [1,0,3] rfl
 exact qbx qb [GoT.v (List qa) [.slice p9 x1.length k8]] ⟨rfl,trivial⟩ ⟨_,_,rfl,SH.unfr 1 2 h0 h rfl rfl⟩
def qgg (n:Nat) (code:(List (IntK .u8))):Option (qd × (List qa) × (List Int)) :=
 (qjW n code).bind fun o=>match o with
  | some (⟨_,_,i1⟩) =>
   ((qic n (⟨code,0,i1⟩:Tl01Source)).bind fun o=>match o with
    | (r2,i2,i3) =>
     (
      (qeu n r2).bind fun r7 =>
      bif (!r7) then some true else
      (qab n r2).bind fun r8 =>
      some (r8==0)).bind fun b1 =>
     bif b1 then some (r2,[],([0]:List Int)) else
     (qfc n (⟨code,i2,i3⟩:Tl01Source) r2).bind fun o=>match o with
      | (r3,i4,i5) =>
       (qgl n (⟨code,i4,i5⟩:Tl01Source) r2 r3).bind fun o=>match o with
        | (r4,i6,i7) =>
         (qn n (⟨code,i6,i7⟩:Tl01Source) 3).bind fun o=>match o with
          | (i8,i9,i10) =>
           (
            bif (i8==0) then
             (qfc n (⟨code,i9,i10⟩:Tl01Source) r2).bind fun o=>match o with
              | (r6,i19,i20) =>
               some (r6,i19,i20)
            else
             some (r3,i9,i10)).bind fun o=>match o with
            | (x1,i11,i12) =>
             (qn n (⟨code,i11,i12⟩:Tl01Source) 14).bind fun o=>match o with
              | (i13,i14,i15) =>
               bif (i13==0) then
                (qab n r2).bind fun r5 =>
                (qn n (⟨code,i14,i15⟩:Tl01Source) r5).bind fun o=>match o with
                 | (i16,_,_) =>
                  (appS x1 ([i16]:List Int)).bind fun x2 =>
                  some (r2,r4,x2)
               else
                some (r2,r4,x1))
  | _=>none
theorem qkZ {A:Nat→Prop} (hA:∀ b,A b→old w b) {code:(List (IntK .u8))} (ha1:GoT.R w A code cs1) {r:(qd × (List qa) × (List Int))} (hF:qgg n code=some r):RetG Tryz.prog 30 [GoT.v (List (IntK .u8)) cs1] w A r:=by
 obtain ⟨p1,k1,rfl,s1⟩:=ha1
 have hg:=Rg.start hA
 refine qf6 Tryz.func30 rfl (m:=49) rfl rfl (fun h=>?_)
 refine zSR (qB qb h rfl rfl rfl fun w1 bb1 h=>X0 6 rfl ?_)
 obtain ⟨r1,hr1,hF⟩:=qe hF
 refine qsT (cB 68 rfl) (qlX ⟨_,_,rfl,(h.oldS (s1.mono hg.old))⟩ hr1) rfl rfl rfl rfl ?_
 rintro w2 us1 L1 hs1 ⟨bb2,i1,rfl,rfl,rfl⟩
 replace h:SH _ _ [Ch.box bb2 [.slice p1 code.length k1,.int .i64 0,.int .i64 i1] 184,Ch.box bb1 [.slice none 0 0,.slice none 0 0,.slice none 0 0,.slice none 0 0,.slice none 0 0] 34]:=SH.appendN h hs1 ⟨fun _ h=>h,trivial⟩
 refine X0 5 rfl ?_
 obtain ⟨o1,hr2,hF⟩:=qe hF
 obtain ⟨r2,i2,i3⟩:=o1
 refine qaV (cB 69 rfl) (qmi (s:=(⟨code,0,i1⟩:Tl01Source)) h (qd8 _ (h.frOldS (s1.mono hg.old))) hr2) rfl rfl rfl rfl ?_
 rintro w3 us2 ⟨S1,cs2,rfl,h⟩
 have hr3:=h.grpS 0 0 rfl rfl
 obtain ⟨p2,k2,p3,k3,p4,k4,p5,k5,p6,k6,rfl,s2,s3,s4,s5,s6⟩:=qD hr3
 replace h:SH _ _ [Ch.grp (fun _=>False) S1 [fct (r2:qd) [.slice p2 r2.Af.Aj.length k2,.slice p3 r2.Aa.Ab.length k3,.slice p4 r2.Aa.Ai.length k4,.slice p5 r2.Aa.Ac.length k5,.slice p6 r2.Ah.length k6]],Ch.box bb2 [.slice p1 code.length k1,.int .i64 i2,.int .i64 i3] 184,Ch.box bb1 [.slice none 0 0,.slice none 0 0,.slice none 0 0,.slice none 0 0,.slice none 0 0] 34]:=h
 refine qB qb h rfl rfl rfl fun w4 bb3 h=>zs 0 h rfl fun w5 h=>zNSS ?_
 obtain ⟨KF2,hKF2,o9,hF,hK2⟩:=bindE hF
 refine qa8 (fun e w'=>∃ (b1:Bool),KF2 b1=some r∧e=[(2,.pointer (some ⟨bb1,0,none⟩)),(5,.pointer (some ⟨bb2,0,none⟩)),(6,.pointer (some ⟨bb3,0,none⟩)),(20,.bool b1)]∧SH w w' [Ch.box bb3 (qA r2 p2 p3 p4 p5 p6 k2 k3 k4 k5 k6) 34,Ch.grp (fun _=>False) S1 [fct (r2:qd) [.slice p2 r2.Af.Aj.length k2,.slice p3 r2.Aa.Ab.length k3,.slice p4 r2.Aa.Ai.length k4,.slice p5 r2.Aa.Ac.length k5,.slice p6 r2.Ah.length k6]],Ch.box bb2 [.slice p1 code.length k1,.int .i64 i2,.int .i64 i3] 184,Ch.box bb1 [.slice none 0 0,.slice none 0 0,.slice none 0 0,.slice none 0 0,.slice none 0 0] 34]) ?_ ?_
 ·refine X1 2 0 h rfl (zcB h hF (qfy (h.grp 1 0 rfl rfl)) rfl fun r7 w20 h hF=>zp2 rfl (qh (t:=16) hF rfl ?_ ?_))<;>intro hF
  ·refine X0 5 rfl ?_
   obtain rfl:=qc hF
   exact rG ⟨_,hK2,rfl,h⟩ rfl
  refine X1 3 0 h rfl (zcI h hF (qaK (h.grp 1 0 rfl rfl)) rfl fun r8 w21 h hF=>X0 4 rfl ?_)
  obtain rfl:=qc hF
  exact rG ⟨_,hK2,rfl,h⟩ rfl
 rintro e2 w22 ⟨b1,hF,rfl,h⟩
 subst hKF2
 refine qk rfl hF ?_ ?_<;>intro hF
 ·refine X1 3 0 h rfl (qm qb [.const (.int .i64 (0))] _ ([0]:List Int) h rfl rfl rfl rfl rfl rfl rfl rfl rfl ⟨rfl,trivial⟩ rfl fun w6 p7 S2 h=>zs 4 h rfl fun w7 h=>X0 3 rfl ?_)
  obtain rfl:=qc hF
  have hv1:GoRs.Rs (ρ:=(qd × (List qa) × (List Int))) h.wc (reg A w h.wc) (r2,[],([0]:List Int)) [GoT.v qd (qA r2 p2 p3 p4 p5 p6 k2 k3 k4 k5 k6),GoT.v (List qa) [.slice none 0 0],GoT.v (List Int) [.slice p7 1 1]]:=⟨_,_,rfl,(hg.outR h (GoT.mono (Rg.grpR 2 0 h rfl rfl) (fun _ hb=>hb.elim (fun h=>h.elim) .inr))),⟨_,_,rfl,(hg.outR h (⟨_,_,rfl,qow⟩)),⟨_,rfl,(hg.outR h (Rg.ownR 0 h rfl))⟩⟩⟩
  have hk1:=h
  replace h:=h.pick [0,1,3,4] rfl
  exact qha qb (ρ:=(qd × (List qa) × (List Int))) (r:=(r2,[],([0]:List Int))) [GoT.v qd (qA r2 p2 p3 p4 p5 p6 k2 k3 k4 k5 k6),GoT.v (List qa) [.slice none 0 0],GoT.v (List Int) [.slice p7 1 1]] h ⟨⟨_,_,_,rfl,rfl,hk1.box 4 rfl,rfl⟩,rfl,rfl,trivial⟩ hv1
 refine X1 5 0 h rfl ?_
 replace h:=h.pick [2,0,1,3] rfl
 obtain ⟨o2,hr5,hF⟩:=qe hF
 obtain ⟨r3,i4,i5⟩:=o2
 refine qaV (cB 71 rfl) (qhK (s:=(⟨code,i2,i3⟩:Tl01Source)) (b:=r2) h (qd8 _ (h.frOldS (s1.mono hg.old))) (h.frG 2 0 1 rfl rfl rfl) hr5) rfl rfl rfl rfl ?_
 rintro w8 us3 ⟨S3,cs3,rfl,h⟩
 obtain ⟨p8,k7,rfl,-⟩:=h.own 0 rfl
 replace h:SH _ _ [Ch.own S3 (r3:List Int) [.slice p8 r3.length k7],Ch.box bb2 [.slice p1 code.length k1,.int .i64 i4,.int .i64 i5] 184,Ch.box bb3 (qA r2 p2 p3 p4 p5 p6 k2 k3 k4 k5 k6) 34,Ch.grp (fun _=>False) S1 [fct (r2:qd) [.slice p2 r2.Af.Aj.length k2,.slice p3 r2.Aa.Ab.length k3,.slice p4 r2.Aa.Ai.length k4,.slice p5 r2.Aa.Ac.length k5,.slice p6 r2.Ah.length k6]],Ch.box bb1 [.slice none 0 0,.slice none 0 0,.slice none 0 0,.slice none 0 0,.slice none 0 0] 34]:=h
 refine X1 7 2 h rfl ?_
 replace h:=h.pick [1,0,2,3,4] rfl
 obtain ⟨o3,hr6,hF⟩:=qe hF
 obtain ⟨r4,i6,i7⟩:=o3
 refine qaV (cB 72 rfl) (qkr (s:=(⟨code,i4,i5⟩:Tl01Source)) (b:=r2) (path:=r3) h (qd8 _ (h.frOldS (s1.mono hg.old))) (h.frG 3 0 1 rfl rfl rfl) (h.frO 1 1 rfl rfl) hr6) rfl rfl rfl rfl ?_
 rintro w9 us4 ⟨S4,cs4,rfl,h⟩
 have hr7:=h.grpS 0 0 rfl rfl
 obtain ⟨p9,k8,rfl,s7⟩:=hr7
 replace h:SH _ _ [Ch.grp (fun _=>False) S4 [fct (r4:(List qa)) [.slice p9 r4.length k8]],Ch.box bb2 [.slice p1 code.length k1,.int .i64 i6,.int .i64 i7] 184,Ch.own S3 (r3:List Int) [.slice p8 r3.length k7],Ch.box bb3 (qA r2 p2 p3 p4 p5 p6 k2 k3 k4 k5 k6) 34,Ch.grp (fun _=>False) S1 [fct (r2:qd) [.slice p2 r2.Af.Aj.length k2,.slice p3 r2.Aa.Ab.length k3,.slice p4 r2.Aa.Ai.length k4,.slice p5 r2.Aa.Ac.length k5,.slice p6 r2.Ah.length k6]],Ch.box bb1 [.slice none 0 0,.slice none 0 0,.slice none 0 0,.slice none 0 0,.slice none 0 0] 34]:=h
 refine X0 6 rfl ?_
 replace h:=h.pick [1,0,2,3,4,5] rfl
 obtain ⟨o4,hr9,hF⟩:=qe hF
 obtain ⟨i8,i9,i10⟩:=o4
 refine qaV (cB 73 rfl) (qgc (a_0:=(⟨code,i6,i7⟩:Tl01Source)) (a_1:=3) h (qd8 _ (h.frOldS (s1.mono hg.old))) hr9) rfl rfl rfl rfl ?_
 rintro w10 us5 ⟨rfl,h⟩
 dsimp only at h
 refine X0 2 rfl ?_
 obtain ⟨KF1,hKF1,o7,hF,hK1⟩:=bindE hF
 refine qa8 (fun e w'=>∃ (S5:Nat→Prop) (p10:Option Addr) (ln1:Nat) (k9:Nat) (x1:(List Int)) (i11:Int) (i12:Int),KF1 (x1,i11,i12)=some r∧e=[(2,.pointer (some ⟨bb1,0,none⟩)),(5,.pointer (some ⟨bb2,0,none⟩)),(6,.pointer (some ⟨bb3,0,none⟩)),(7,.slice p10 ln1 k9),(8,.slice p9 r4.length k8)]∧SH w w' [Ch.own S5 (x1:List Int) [.slice p10 ln1 k9],Ch.box bb2 [.slice p1 code.length k1,.int .i64 i11,.int .i64 i12] 184,Ch.grp (fun _=>False) S4 [fct (r4:(List qa)) [.slice p9 r4.length k8]],Ch.box bb3 (qA r2 p2 p3 p4 p5 p6 k2 k3 k4 k5 k6) 34,Ch.grp (fun _=>False) S1 [fct (r2:qd) [.slice p2 r2.Af.Aj.length k2,.slice p3 r2.Aa.Ab.length k3,.slice p4 r2.Aa.Ai.length k4,.slice p5 r2.Aa.Ac.length k5,.slice p6 r2.Ah.length k6]],Ch.box bb1 [.slice none 0 0,.slice none 0 0,.slice none 0 0,.slice none 0 0,.slice none 0 0] 34]) ?_ ?_
 ·refine qk rfl hF ?_ ?_<;>intro hF
  ·refine X1 3 3 h rfl ?_
   obtain ⟨o8,hr13,hF⟩:=qe hF
   obtain ⟨r6,i19,i20⟩:=o8
   refine qaV (cB 71 rfl) (qhK (s:=(⟨code,i9,i10⟩:Tl01Source)) (b:=r2) h (qd8 _ (h.frOldS (s1.mono hg.old))) (h.frG 4 0 1 rfl rfl rfl) hr13) rfl rfl rfl rfl ?_
   rintro w18 us8 ⟨S8,cs5,rfl,h⟩
   obtain ⟨p13,k11,rfl,-⟩:=h.own 0 rfl
   replace h:SH _ _ [Ch.own S8 (r6:List Int) [.slice p13 r6.length k11],Ch.box bb2 [.slice p1 code.length k1,.int .i64 i19,.int .i64 i20] 184,Ch.grp (fun _=>False) S4 [fct (r4:(List qa)) [.slice p9 r4.length k8]],Ch.own S3 (r3:List Int) [.slice p8 r3.length k7],Ch.box bb3 (qA r2 p2 p3 p4 p5 p6 k2 k3 k4 k5 k6) 34,Ch.grp (fun _=>False) S1 [fct (r2:qd) [.slice p2 r2.Af.Aj.length k2,.slice p3 r2.Aa.Ab.length k3,.slice p4 r2.Aa.Ai.length k4,.slice p5 r2.Aa.Ac.length k5,.slice p6 r2.Ah.length k6]],Ch.box bb1 [.slice none 0 0,.slice none 0 0,.slice none 0 0,.slice none 0 0,.slice none 0 0] 34]:=h
   refine X0 2 rfl ?_
   replace h:=h.pick [0,1,2,4,5,6] rfl
   obtain rfl:=qc hF
   exact rG ⟨_,_,_,_,_,_,_,hK1,rfl,h⟩ rfl
  refine qeg ?_
  replace h:=h.pick [2,0,1,3,4,5] rfl
  obtain rfl:=qc hF
  exact rG ⟨_,_,_,_,_,_,_,hK1,rfl,h⟩ rfl
 rintro e1 w19 ⟨S5,p10,ln1,k9,x1,i11,i12,hF,rfl,h⟩
 subst hKF1
 obtain rfl:=(h.sl 0 rfl).2
 refine X0 4 rfl ?_
 replace h:=h.pick [1,0,2,3,4,5] rfl
 obtain ⟨o5,hr10,hF⟩:=qe hF
 obtain ⟨i13,i14,i15⟩:=o5
 refine qaV (cB 73 rfl) (qgc (a_0:=(⟨code,i11,i12⟩:Tl01Source)) (a_1:=14) h (qd8 _ (h.frOldS (s1.mono hg.old))) hr10) rfl rfl rfl rfl ?_
 rintro w11 us6 ⟨rfl,h⟩
 dsimp only at h
 refine X0 2 rfl (qk rfl hF ?_ ?_)<;>intro hF
 ·refine X1 4 3 h rfl (zcI h hF (qaK (h.grp 4 0 rfl rfl)) rfl fun r5 w12 h hF=>?_)
  obtain ⟨o6,hr12,hF⟩:=qe hF
  obtain ⟨i16,i17,i18⟩:=o6
  refine qaV (cB 73 rfl) (qgc (a_0:=(⟨code,i14,i15⟩:Tl01Source)) (a_1:=r5) h (qd8 _ (h.frOldS (s1.mono hg.old))) hr12) rfl rfl rfl rfl ?_
  rintro w13 us7 ⟨rfl,h⟩
  dsimp only at h
  refine qm qb [.tmp 43] _ ([i16]:List Int) h rfl rfl rfl rfl rfl rfl rfl rfl rfl ⟨rfl,trivial⟩ rfl fun w14 p11 S6 h=>?_
  obtain ⟨x2,hx1,hF⟩:=qe hF
  obtain ⟨g1,hx1⟩:=qr hx1
  refine qaf qb 2 h rfl (h.sl 0 rfl).1 (h.sl 0 rfl).2 rfl rfl rfl rfl rfl rfl rfl rfl rfl g1 hx1 rfl fun w15 p12 k10 S7 h=>X1 7 4 h rfl (zs 6 h rfl fun w16 h=>X0 3 rfl ?_)
  obtain rfl:=qc hF
  have hv2:GoRs.Rs (ρ:=(qd × (List qa) × (List Int))) h.wc (reg A w h.wc) (r2,r4,x2) [GoT.v qd (qA r2 p2 p3 p4 p5 p6 k2 k3 k4 k5 k6),GoT.v (List qa) [.slice p9 r4.length k8],GoT.v (List Int) [.slice p12 x2.length k10]]:=⟨_,_,rfl,(hg.outR h (GoT.mono (Rg.grpR 5 0 h rfl rfl) (fun _ hb=>hb.elim (fun h=>h.elim) .inr))),⟨_,_,rfl,(hg.outR h (GoT.mono (Rg.grpR 3 0 h rfl rfl) (fun _ hb=>hb.elim (fun h=>h.elim) .inr))),⟨_,rfl,(hg.outR h (Rg.ownR 2 h rfl))⟩⟩⟩
  have hk2:=h
  replace h:=h.pick [0,1,2,4,6] rfl
  exact qha qb (ρ:=(qd × (List qa) × (List Int))) (r:=(r2,r4,x2)) [GoT.v qd (qA r2 p2 p3 p4 p5 p6 k2 k3 k4 k5 k6),GoT.v (List qa) [.slice p9 r4.length k8],GoT.v (List Int) [.slice p12 x2.length k10]] h ⟨⟨_,_,_,rfl,rfl,hk2.box 6 rfl,rfl⟩,rfl,rfl,trivial⟩ hv2
 refine X1 6 3 h rfl (zs 5 h rfl fun w17 h=>X0 3 rfl ?_)
 obtain rfl:=qc hF
 have hv3:GoRs.Rs (ρ:=(qd × (List qa) × (List Int))) h.wc (reg A w h.wc) (r2,r4,x1) [GoT.v qd (qA r2 p2 p3 p4 p5 p6 k2 k3 k4 k5 k6),GoT.v (List qa) [.slice p9 r4.length k8],GoT.v (List Int) [.slice p10 x1.length k9]]:=⟨_,_,rfl,(hg.outR h (GoT.mono (Rg.grpR 4 0 h rfl rfl) (fun _ hb=>hb.elim (fun h=>h.elim) .inr))),⟨_,_,rfl,(hg.outR h (GoT.mono (Rg.grpR 2 0 h rfl rfl) (fun _ hb=>hb.elim (fun h=>h.elim) .inr))),⟨_,rfl,(hg.outR h (Rg.ownR 1 h rfl))⟩⟩⟩
 have hk3:=h
 replace h:=h.pick [0,1,3,5] rfl
 exact qha qb (ρ:=(qd × (List qa) × (List Int))) (r:=(r2,r4,x1)) [GoT.v qd (qA r2 p2 p3 p4 p5 p6 k2 k3 k4 k5 k6),GoT.v (List qa) [.slice p9 r4.length k8],GoT.v (List Int) [.slice p10 x1.length k9]] h ⟨⟨_,_,_,rfl,rfl,hk3.box 5 rfl,rfl⟩,rfl,rfl,trivial⟩ hv3
def qc9 (n:Nat) (code:(List (IntK .u8))):Option (qd × (List qa) × (List Int)) :=
 (qgg n code).bind fun o=>match o with
  | (r2,r3,r4) =>
   some (r2,r3,r4)
theorem qeL {A:Nat→Prop} (hA:∀ b,A b→old w b) {code:(List (IntK .u8))} (ha1:GoT.R w A code cs1) {r:(qd × (List qa) × (List Int))} (hF:qc9 n code=some r):RetG Tryz.prog 7 [GoT.v (List (IntK .u8)) cs1] w A r:=by
 obtain ⟨p1,k1,rfl,s1⟩:=ha1
 have hg:=Rg.start hA
 refine qf6 Tryz.func7 rfl (m:=10) rfl rfl (fun h=>?_)
 refine zSR (qB qb h rfl rfl rfl fun w1 bb1 h=>X0 6 rfl ?_)
 obtain ⟨r1,hr1,hF⟩:=qe hF
 obtain ⟨r2,r3,r4⟩:=r1
 refine qhI (r2,r3,r4) hg h (cB 30 rfl) (qkZ (hg.atB h) ⟨_,_,rfl,(hg.inBS h s1)⟩ hr1) rfl rfl rfl rfl fun w2 us1 S1 h hv1=>?_
 obtain ⟨cs2,us2,rfl,hr2,hv2⟩:=qev hv1
 have hr3:=hr2
 obtain ⟨p2,k2,p3,k3,p4,k4,p5,k5,p6,k6,rfl,s2,s3,s4,s5,s6⟩:=qD hr2
 replace h:=h.grpAdd 0 rfl hr3
 obtain ⟨cs3,us3,rfl,hr4,hv3⟩:=qev hv2
 have hr5:=hr4
 obtain ⟨p7,k7,rfl,s7⟩:=hr4
 replace h:=h.grpAdd 0 rfl hr5
 obtain ⟨cs4,rfl,hr6⟩:=qgt hv3
 have hr7:=hr6
 obtain ⟨p8,k8,rfl,s8⟩:=hr6
 replace h:=h.grpAdd 0 rfl hr7
 refine zp3 rfl (zs 1 h rfl fun w3 h=>X0 3 rfl ?_)
 obtain rfl:=qc hF
 have hv4:GoRs.Rs (ρ:=(qd × (List qa) × (List Int))) h.wc (reg A w h.wc) (r2,r3,r4) [GoT.v qd (qA r2 p2 p3 p4 p5 p6 k2 k3 k4 k5 k6),GoT.v (List qa) [.slice p7 r3.length k7],GoT.v (List Int) [.slice p8 r4.length k8]]:=⟨_,_,rfl,(hg.outR h (Rg.grpR 0 2 h rfl rfl)),⟨_,_,rfl,(hg.outR h (Rg.grpR 0 1 h rfl rfl)),⟨_,rfl,(hg.outR h (Rg.grpR 0 0 h rfl rfl))⟩⟩⟩
 have hk1:=h
 replace h:=h.pick [1] rfl
 exact qha qb (ρ:=(qd × (List qa) × (List Int))) (r:=(r2,r3,r4)) [GoT.v qd (qA r2 p2 p3 p4 p5 p6 k2 k3 k4 k5 k6),GoT.v (List qa) [.slice p7 r3.length k7],GoT.v (List Int) [.slice p8 r4.length k8]] h ⟨⟨_,_,_,rfl,rfl,hk1.box 1 rfl,rfl⟩,rfl,rfl,trivial⟩ hv4
end Go.Fw


namespace Go.Fw
open Go
structure qjF (x:qak):Prop where
 Au:okS x.Au
 Bl:okI x.Bl
 Bd:okI x.Bd
 Bb:okT x.Bb
structure qhk (x:qX):Prop where
 Bg:(okL okI) x.Bg
 Bf:(okL okI) x.Bf
 Av:(okL okI) x.Av
structure qjM (x:qav):Prop where
 Ar:okI x.Ar
 As:okI x.As
 To:okI x.To
 Bj:okI x.Bj
 Bi:(okL qhk) x.Bi
 Bn:(okL qhk) x.Bn
structure qkU (x:qt):Prop where
 Au:okS x.Au
 Ar:okI x.Ar
 Ap:(okL qjF) x.Ap
 Aq:(okL qjM) x.Aq
 Ba:(okL okI) x.Ba
 Br:okI x.Br
 Bk:okI x.Bk
structure qf4 (x:qq):Prop where
 Aj:(okL qkU) x.Aj
structure qmq (x:qz):Prop where
 Au:okS x.Au
 Az:okI x.Az
 Ai:(okL okI) x.Ai
structure qoS (x:qam):Prop where
 Au:okS x.Au
 Bl:okI x.Bl
 Bo:okI x.Bo
structure qis (x:qg):Prop where
 Ab:(okL qmq) x.Ab
 Ai:(okL okS) x.Ai
 Ac:(okL qoS) x.Ac
structure qlR (x:qae):Prop where
 Ak:(okL okI) x.Ak
 Bh:(okL okI) x.Bh
 Bd:(okL okI) x.Bd
 Ay:(okL okI) x.Ay
structure qbn (x:qd):Prop where
 Af:qf4 x.Af
 Aa:qis x.Aa
 Ah:(okL qlR) x.Ah
structure qG (x:qa):Prop where
 Ar:okI x.Ar
 Bc:okI x.Bc
 As:(okL okI) x.As
 Am:(okL okI) x.Am
 To:(okL okI) x.To
end Go.Fw


namespace Go.Fw
open Go
set_option maxRecDepth 100000
theorem qdE {n:Nat} {x lo hi:Int}:qao n x lo hi=some (inI x lo hi):=by
 simp only [qao,qkc,qlH];rfl
theorem qcN {n:Nat} {x lo hi:Int}:qaA n x lo hi=some (inI x lo hi):=by
 simp only [qaA,qkc,qlH];rfl
def bt (s:ByteArray) (j:Nat):Nat:=(s.data.toList.getD j 0).toNat
theorem qrP {s:ByteArray} {j:Nat} (h:j<s.size):atS s (j:Int)=some (bt s j:Int):=by
 have h':j<s.data.size:=h
 have hl:j<s.data.toList.length:=by simpa using h'
 unfold atS
 rw [if_pos (by omega),jC]
 have:s[j]?=some (s.data.toList.getD j 0):=by
  rw [getElem?_pos s j h,jK,ji hl]
  rfl
 rw [this]
 rfl
def letB (b:Nat):Bool:=decide (97≤b)&&decide (b≤122)
def digB (b:Nat):Bool:=decide (48≤b)&&decide (b≤57)
def chB (s:ByteArray) (j:Nat):Bool:=letB (bt s j) || digB (bt s j)&&decide (0<j)
def nameB (s:ByteArray):Bool:=(decide (1≤s.size)&&decide (s.size≤8))&&allN (chB s) s.size
theorem qlg {s:ByteArray} (h:okS s):Ev (fun n=>qf7 n s) (nameB s):=by
 unfold okS at h
 have hL:Ev (fun n=>qdy s n 0) (bif allN (chB s) s.size then .nxt (s.size:Int) else .ret false):=by
  refine qee ?_ (fun j hj X hX=>?_)
  ·exact Ev.succ (by simp only [qdy,qj (jf _),cond_false];exact .done)
  ·refine Ev.succ ?_
   simp only [qdy,qi hj,cond_true,qrP hj,je,qkc,qlH,wS j]
   have e1:(decide ((bt s j:Int) ≥ 97)&&decide ((bt s j:Int)≤122))=letB (bt s j):=by unfold letB;rw [jm];simp;omega
   have e2:(decide ((bt s j:Int) ≥ 48)&&decide ((bt s j:Int)≤57))=digB (bt s j):=by unfold digB;rw [jm];simp;omega
   have e3:decide ((j:Int) > 0)=decide (0<j):=by rw [jm];simp
   rw [e1,e2,e3]
   unfold chB
   cases letB (bt s j)<;>cases digB (bt s j)<;>cases decide (0<j)<;>first|exact hX|exact .done
 unfold qf7
 refine Ev.cast (r:=bif allN (chB s) s.size then (decide (1≤s.size)&&decide (s.size≤8)) else false) (Ev.bindB hL (fun _=>?_) (fun _=>.done)) ?_
 ·simp only [qkc,qlH]
  exact Ev.now (by congr 1;rw [jm];simp;omega)
 ·unfold nameB
  cases allN (chB s) s.size<;>simp
def cutset:List UInt8:=[97,98,99,100,101,102,103,104,105,106,107,108,109,110,111,112,113,114,115,116,117,118,119,120,121,122,48,49,50,51,52,53,54,55,56,57]
theorem qnn (b:UInt8):cutset.contains b=(letB b.toNat || digB b.toNat):=by
 have h0:(List.range 256).all (fun m=>cutset.contains (UInt8.ofNat m)==(letB (UInt8.ofNat m).toNat || digB (UInt8.ofNat m).toNat))=true:=by kernel_rfl
 have h:=List.all_eq_true.1 h0 b.toNat (List.mem_range.2 b.toNat_lt)
 rw [beq_iff_eq] at h
 simpa using h
def letters:List UInt8:=[97,98,99,100,101,102,103,104,105,106,107,108,109,110,111,112,113,114,115,116,117,118,119,120,121,122]
theorem qpX (m:Nat) (hm:m<256):decide ((Lib.indexByte letters m.toUInt8) ≥ 0)=letB m:=by
 have h0:(List.range 256).all (fun m=>decide ((Lib.indexByte letters m.toUInt8) ≥ 0)==letB m)=true:=by kernel_rfl
 have h:=List.all_eq_true.1 h0 m (List.mem_range.2 hm)
 rwa [beq_iff_eq] at h
theorem qnE {α:Type} {p:α→Bool} {l:List α}:l.dropWhile p=[]↔∀ x,x ∈ l→p x=true:=by
 induction l with
 | nil=>simp
 | cons y l ih =>
  rw [List.dropWhile_cons]
  by_cases h:p y=true
  ·rw [if_pos h,ih];simp [h]
  ·rw [if_neg h];simp [h]
theorem qnO {α:Type} {p:α→Bool} {l:List α} (h:∀ x,x ∈ l.dropWhile p→p x=true):∀ x,x ∈ l→p x=true:=by
 induction l with
 | nil=>simp
 | cons y l ih =>
  rw [List.dropWhile_cons] at h
  by_cases hy:p y=true
  ·rw [if_pos hy] at h
   intro x hx
   rcases List.mem_cons.1 hx with rfl|hx
   ·exact hy
   ·exact ih h x hx
  ·rw [if_neg hy] at h
   exact h
theorem qse {l cs:List UInt8}:Lib.trimS l cs=[]↔∀ x,x ∈ l→cs.contains x=true:=by
 unfold Lib.trimS Lib.trimRightS Lib.trimLeftS
 rw [qnE]
 constructor
 ·intro h x hx
  exact qnO (p:=(cs.contains ·)) (l:=l.reverse) (fun y hy=>h y (List.mem_reverse.2 hy)) x (List.mem_reverse.2 hx)
 ·intro h x hx
  exact h x (List.mem_reverse.1 ((List.dropWhile_suffix _).subset (List.mem_reverse.1 hx)))
theorem qgw {a b:ByteArray}:(a.toList==b.toList)=decide (a=b):=by
 rw [jm,beq_iff_eq,decide_eq_true_iff]
 constructor
 ·intro h
  exact ByteArray.ext (by have:=congrArg List.toArray h;simpa [ByteArray.toList_eq] using this)
 ·rintro rfl;rfl
end Go.Fw


namespace Go.Fw
open Go
set_option maxRecDepth 100000
theorem qtn {s:ByteArray} {j:Nat} (h:j<s.data.toList.length):bt s j=(s.data.toList[j]).toNat:=by
 unfold bt;rw [jK,ji h];rfl
theorem qt9 {s:ByteArray} {j:Nat}:bt s j<256:=UInt8.toNat_lt _
theorem qn2 {n:Nat} {s:ByteArray} (h:okS s):qhP n s=some (nameB s):=by
 unfold okS at h
 have hl:s.data.toList.length=s.size:=by simp
 simp only [qhP,qcN,je]
 cases hI:inI (s.size:Int) 1 8 with
 | false =>
  have hs:(decide (1≤s.size)&&decide (s.size≤8))=false:=by rw [qrf] at hI;rw [Bool.and_eq_false_iff,decide_eq_false_iff_not,decide_eq_false_iff_not];omega
  simp [nameB,hs]
 | true =>
  have hs:1≤s.size∧s.size≤8:=by rw [qbT] at hI;omega
  have hT:qg6 n s (⟨#[97,98,99,100,101,102,103,104,105,106,107,108,109,110,111,112,113,114,115,116,117,118,119,120,121,122,48,49,50,51,52,53,54,55,56,57]⟩:ByteArray)=some ⟨(Lib.trimS s.data.toList cutset).toArray⟩:=by
   unfold qg6
   rw [if_pos ⟨by omega,by decide,by decide⟩]
   rfl
  rw [hT]
  simp only [cond_true,je]
  have hE:(((⟨(Lib.trimS s.data.toList cutset).toArray⟩:ByteArray).toList==(⟨#[]⟩:ByteArray).toList))=allN (fun j=>letB (bt s j) || digB (bt s j)) s.size:=by
   rw [qgw,jm,decide_eq_true_iff,qay]
   have:((⟨(Lib.trimS s.data.toList cutset).toArray⟩:ByteArray)=⟨#[]⟩)↔Lib.trimS s.data.toList cutset=[]:=by
    constructor
    ·intro he
     have:=congrArg (fun x:ByteArray=>x.data.toList) he
     simpa using this
    ·intro he;rw [he]
   rw [this,qse]
   constructor
   ·intro hx j hj
    have hj':j<s.data.toList.length:=by omega
    have:=hx _ (jp hj')
    rw [qnn,←qtn hj'] at this
    exact this
   ·intro hx x hm
    obtain ⟨j,hj,rfl⟩:=jM hm
    have:=hx j (by omega)
    rw [qnn,←qtn hj]
    exact this
  rw [hE]
  have h0:atS s 0=some (bt s 0:Int):=qrP (j:=0) (by omega)
  have hI2:decide (Lib.indexByte letters (bt s 0:Int).toNat.toUInt8 ≥ 0)=letB (bt s 0):=by
   rw [jC];exact qpX _ qt9
  have hF:∀ b:Bool,(bif b then (atS s 0).bind fun y1=>(qfJ n (⟨#[97,98,99,100,101,102,103,104,105,106,107,108,109,110,111,112,113,114,115,116,117,118,119,120,121,122]⟩:ByteArray) (⟨y1⟩:IntK .u8)).bind fun r3=>some (decide (r3 ≥ 0)) else some false)=some (b&&letB (bt s 0)):=by
   intro b
   cases b with
   | false=>rfl
   | true =>
    rw [h0]
    simp only [cond_true,je,qfJ,jJ]
    exact congrArg some hI2
  rw [hF]
  congr 1
  have hs':(decide (1≤s.size)&&decide (s.size≤8))=true:=by simp [hs]
  unfold nameB
  rw [hs',jJ,jm,jg,qay,qay]
  simp only [chB,Bool.or_eq_true,jg,decide_eq_true_eq]
  constructor
  ·rintro ⟨h1,h2⟩ j hj
   rcases Nat.eq_zero_or_pos j with rfl|hp
   ·exact .inl h2
   ·exact (h1 j hj).imp id (fun h=>⟨h,hp⟩)
  ·intro h1
   refine ⟨fun j hj=>(h1 j hj).imp id (fun h=>h.1),?_⟩
   rcases h1 0 (by omega) with h2|h2
   ·exact h2
   ·omega
def strAt (xs:List ByteArray) (j:Nat):ByteArray:=xs.getD j ByteArray.empty
theorem qlN {xs:List ByteArray} {j:Nat} (h:j<xs.length):strAt xs j=xs[j]:=by simp [strAt,h]
theorem qmR {xs:List ByteArray} {j:Nat} (h:j<xs.length):idx xs (j:Int)=some (strAt xs j):=by rw [qZ h,qlN h]
def neB (xs:List ByteArray) (j i:Nat):Bool:=!decide (strAt xs i=strAt xs j)
def namesB (xs:List ByteArray):Bool:=allN (fun j=>nameB (strAt xs j)&&allN (neB xs j) j) xs.length
theorem qks {xs:List ByteArray} (h:okL okS xs):Ev (fun n=>qfE n xs) (namesB xs):=by
 have hl:=h.len
 have hL2:∀ j,j<xs.length→Ev (fun n=>qdS xs (j:Int) n 0) (bif allN (neB xs j) j then .nxt (j:Int) else .ret false):=by
  intro j hj
  refine qee ?_ (fun i hi X hX=>Ev.succ ?_)
  ·exact Ev.succ (by simp only [qdS,qj (jf _),cond_false];exact .done)
  ·simp only [qdS,qi hi,cond_true,qmR (show i<xs.length by omega),qmR hj,je,qgw,wS i]
   unfold neB
   cases decide (strAt xs i=strAt xs j)
   ·exact hX
   ·exact .done
 have hL1:Ev (fun n=>qdZ xs n 0) (bif namesB xs then .nxt (xs.length:Int) else .ret false):=by
  refine qee ?_ (fun j hj X hX=>Ev.succ ?_)
  ·exact Ev.succ (by simp only [qdZ,qj (jf _),cond_false];exact .done)
  ·simp only [qdZ,qi hj,cond_true,qmR hj,je,wS j]
   refine Ev.bind (qlg (by rw [qlN hj];exact h.at hj)) ?_
   cases nameB (strAt xs j)
   ·exact .done
   ·refine Ev.ff rfl (Ev.bind (hL2 j hj) ?_)
    cases allN (neB xs j) j
    ·exact .done
    ·exact hX
 unfold qfE
 refine Ev.bind hL1 ?_
 cases namesB xs<;>exact .done
theorem qpd {xs:List ByteArray} {v:ByteArray} (hl:xs.length≤1048576):Ev (fun n=>qeW n xs v) (ixL (fun x=>decide (v=x)) xs) :=
 qdA (fin:=(xs.length:Int)) (Lf:=qbK xs v) (pf:=fun _ x=>some (decide (v=x))) (fun _ _=>.done)
  (fun n=>by simp only [qbK,qj (jf _),cond_false])
  (fun n j x hx=>by
   have hj:=(List.getElem?_eq_some_iff.1 hx).1
   simp only [qbK,qi hj,cond_true,qfY hx,je,qgw,wS j])
  (fun n=>by unfold qeW;congr 1;funext o;cases o<;>rfl)
theorem qni {xs:List ByteArray} {v:ByteArray} (hl:xs.length≤1048576):Ev (fun n=>qdI n xs v) (xs.any fun x=>decide (v=x)):=by
 unfold qdI
 exact Ev.bind (qpd hl) (Ev.now (by rw [qh4]))
theorem qhW {xs:List ByteArray} (h:okL okS xs):Ev (fun n=>qdM n xs) (namesB xs):=by
 have hl:=h.len
 have hL1:Ev (fun n=>qdO xs n 0) (bif namesB xs then .nxt (xs.length:Int) else .ret false):=by
  refine qee ?_ (fun j hj X hX=>Ev.succ ?_)
  ·exact Ev.succ (by simp only [qdO,qj (jf _),cond_false];exact .done)
  ·have hs:subS xs 0 (j:Int)=some (xs.take j):=by
    unfold subS
    rw [if_pos ⟨by omega,by omega,by omega⟩]
    simp
   simp only [qdO,qi hj,cond_true,qmR hj,je,hs,qn2 (show okS (strAt xs j) by rw [qlN hj];exact h.at hj),wS j]
   cases nameB (strAt xs j)
   ·exact .done
   ·refine Ev.ff rfl (Ev.bind (qni (by simp;omega)) ?_)
    have:((xs.take j).any fun x=>decide (strAt xs j=x)) = !allN (neB xs j) j:=by
     rw [qpu (d:=ByteArray.empty)]
     congr 1
     rw [jZ,Nat.min_eq_left (by omega)]
     refine qgP (fun i hi=>?_)
     unfold neB strAt
     congr 1
     have:(xs.take j).getD i ByteArray.empty=xs.getD i ByteArray.empty:=by simp [jK,hi]
     rw [this]
     exact decide_eq_decide.2 eq_comm
    rw [this]
    cases allN (neB xs j) j
    ·exact .done
    ·exact hX
 unfold qdM
 refine Ev.bind hL1 ?_
 cases namesB xs<;>exact .done
end Go.Fw


namespace Go.Fw
open Go
set_option maxRecDepth 100000
theorem qnI {n:Nat} {x lo hi:Int}:qge n x lo hi=some (!inI x lo hi):=by simp only [qge,qcN,je]
theorem qeD {xs:List Int} {lo hi:Int} (hl:xs.length≤1048576):Ev (fun n=>qbm n xs lo hi) (xs.all fun x=>inI x lo hi):=by
 have h1:Ev (fun n=>qaR n xs lo hi) (ixL (fun x=>!inI x lo hi) xs) :=
  qdA (fin:=(xs.length:Int)) (Lf:=qY xs lo hi) (pf:=fun _ x=>some (!inI x lo hi)) (fun _ _=>.done)
   (fun n=>by simp only [qY,qj (jf _),cond_false])
   (fun n j x hx=>by
    have hj:=(List.getElem?_eq_some_iff.1 hx).1
    simp only [qY,qi hj,cond_true,qfY hx,je,qnI,wS j])
   (fun n=>by unfold qaR;congr 1;funext o;cases o<;>rfl)
 unfold qbm qbh
 refine Ev.bind (Ev.bind h1 (Ev.now rfl)) (Ev.now ?_)
 rw [qh4,qlI]
def stepB (xs:List Int) (j:Nat):Bool:=decide (j=0) || decide (at0 xs (j-1)<at0 xs j)
def incB (xs:List Int):Bool:=allN (stepB xs) xs.length
theorem qh9 {xs:List Int} (hl:xs.length≤1048576):Ev (fun n=>qdj n xs) (incB xs):=by
 have hL:Ev (fun n=>qbb xs n 1) (bif incB xs then .nxt (max 1 xs.length:Int) else .ret false):=by
  by_cases h0:xs.length=0
  ·have hb:incB xs=true:=by unfold incB;rw [h0];rfl
   rw [hb]
   refine Ev.succ ?_
   have:decide ((1:Int)<(xs.length:Int))=false:=by rw [h0];decide
   simp only [qbb,this,cond_false]
   exact Ev.now (by rw [h0];rfl)
  ·have:=qoA (Lf:=qbb xs) (len:=xs.length) (i0:=1) (f:=stepB xs) (bad:=false) (fin:=.nxt (max 1 xs.length:Int)) (by omega)
    (Ev.succ (by
     simp only [qbb,qj (jf _),cond_false]
     exact Ev.now (by congr 2;omega)))
    (fun j h1 hj X hX=>Ev.succ (by
     simp only [qbb,qi hj,cond_true,wS j,show (j:Int)-1=((j-1:Nat):Int) by omega,qaz (show -9223372036854775808≤((j-1:Nat):Int) by omega) (by omega),qaN (show j-1<xs.length by omega),qaN hj,je]
     unfold stepB
     by_cases hc:at0 xs (j-1)<at0 xs j
     ·have e1:decide (at0 xs (j-1) ≥ at0 xs j)=false:=by simp;omega
      rw [e1];simp only [hc,decide_true,Bool.or_true,cond_true,cond_false];exact hX
     ·have e1:decide (at0 xs (j-1) ≥ at0 xs j)=true:=by simp;omega
      have e2:decide (j=0)=false:=by simp;omega
      rw [e1,e2];simp only [hc,decide_false,Bool.or_self,cond_true,cond_false];exact .done))
   have e:allN (fun j=>stepB xs (1+j)) (xs.length-1)=incB xs:=by
    unfold incB
    rw [jm,qay,qay]
    constructor
    ·intro h j hj
     cases j with
     | zero=>rfl
     | succ j=>have:=h j (by omega);rwa [Nat.add_comm] at this
    ·intro h j hj
     exact h (1+j) (by omega)
   rw [e] at this
   exact this
 unfold qdj
 refine Ev.bind hL ?_
 cases incB xs<;>exact .done
def lenB {α:Type} (xs:List α) (lo hi:Nat):Bool:=decide (lo≤xs.length)&&decide (xs.length≤hi)
theorem qmN {α:Type} {xs:List α} {lo hi:Nat}:inI (xs.length:Int) (lo:Int) (hi:Int)=lenB xs lo hi:=by
 unfold inI lenB;rw [jm];simp
def axisB (xs:List Int):Bool:=lenB xs 1 4&&((xs.all fun x=>inI x 0 100000)&&incB xs)
theorem qnW {xs:List Int} (hl:xs.length≤1048576):Ev (fun n=>qhX n xs) (axisB xs):=by
 simp only [qhX,qV,je,qcN,show inI (xs.length:Int) 1 4=lenB xs 1 4 from qmN (lo:=1) (hi:=4)]
 unfold axisB
 cases lenB xs 1 4
 ·exact .done
 ·refine Ev.tt rfl (Ev.bind (qeD hl) ?_)
  cases (xs.all fun x=>inI x 0 100000)
  ·exact .done
  ·exact Ev.tt rfl (Ev.bind (qh9 hl) .done)
theorem qns {xs:List Int} (hl:xs.length≤1048576):Ev (fun n=>qgX n xs) (axisB xs):=by
 have hL:Ev (fun n=>qdv xs n 0) (bif allN (fun j=>inI (at0 xs j) 0 100000&&stepB xs j) xs.length then .nxt (xs.length:Int) else .ret false):=by
  refine qee ?_ (fun j hj X hX=>Ev.succ ?_)
  ·exact Ev.succ (by simp only [qdv,qj (jf _),cond_false];exact .done)
  ·simp only [qdv,qi hj,cond_true,qaN hj,je,qdE,wS j]
   cases inI (at0 xs j) 0 100000
   ·exact .done
   ·simp only [Jk,cond_false,jJ]
    unfold stepB
    by_cases h0:j=0
    ·subst h0
     exact Ev.ff (by decide) hX
    ·simp only [show (j:Int)-1=((j-1:Nat):Int) by omega,qaz (show -9223372036854775808≤((j-1:Nat):Int) by omega) (by omega),qaN (show j-1<xs.length by omega),je]
     have e2:decide (j=0)=false:=by simp;omega
     have e3:decide ((j:Int) > 0)=true:=by simp;omega
     rw [e2,e3]
     simp only [cond_true,Jl]
     by_cases hc:at0 xs (j-1)<at0 xs j
     ·have e1:decide (at0 xs (j-1) ≥ at0 xs j)=false:=by simp;omega
      rw [e1];simp only [hc,decide_true,cond_true,cond_false];exact hX
     ·have e1:decide (at0 xs (j-1) ≥ at0 xs j)=true:=by simp;omega
      rw [e1];simp only [hc,decide_false,cond_true,cond_false];exact .done
 have e:axisB xs=(allN (fun j=>inI (at0 xs j) 0 100000&&stepB xs j) xs.length&&lenB xs 1 4):=by
  unfold axisB incB
  rw [qiw,qgx (d:=0),Bool.and_comm]
  rfl
 rw [e]
 unfold qgX
 refine Ev.bind hL ?_
 cases allN (fun j=>inI (at0 xs j) 0 100000&&stepB xs j) xs.length
 ·exact .done
 ·simp only [cond_true,qkc,qlH,jJ]
  exact Ev.now (by congr 1;unfold lenB;rw [jm];simp;omega)
def tableB (t:qX):Bool:=axisB t.Bg&&(axisB t.Bf&&(decide (t.Av.length=t.Bg.length*t.Bf.length)&&(t.Av.all fun x=>inI x (-1000000) 1000000)))
theorem qmL {a b:Nat} (ha:a≤1048576) (hb:b≤1048576):W64 ((a:Int)*(b:Int))=((a*b:Nat):Int):=by
 have h:a*b≤1048576*1048576:=Nat.mul_le_mul ha hb
 have e:(a:Int)*(b:Int)=((a*b:Nat):Int):=by simp
 rw [e]
 exact qaz (by omega) (by omega)
theorem qp7 {t:qX} (h:qhk t):Ev (fun n=>qig n t) (tableB t):=by
 unfold qig tableB
 refine Ev.bind (qnW h.Bg.len) ?_
 cases axisB t.Bg
 ·exact .done
 ·refine Ev.tt rfl (Ev.bind (qnW h.Bf.len) ?_)
  cases axisB t.Bf
  ·exact .done
  ·rw [qmL h.Bg.len h.Bf.len]
   have e:(((t.Av.length:Nat):Int)==((t.Bg.length*t.Bf.length:Nat):Int))=decide (t.Av.length=t.Bg.length*t.Bf.length):=by rw [jm];simp;omega
   rw [e]
   cases decide (t.Av.length=t.Bg.length*t.Bf.length)
   ·exact .done
   ·exact Ev.tt rfl (Ev.tt rfl (Ev.bind (qeD h.Av.len) .done))
theorem qpw {t:qX} (h:qhk t):Ev (fun n=>qir n t) (tableB t):=by
 have hl:=h.Av.len
 have hL:Ev (fun n=>qeo t n 0) (bif (t.Av.all fun x=>inI x (-1000000) 1000000) then .nxt (t.Av.length:Int) else .ret false) :=
  qjh (fun n=>by simp only [qeo,qj (jf _),cond_false]) (fun j hj X hX=>by
   simp only [qeo,qi hj,cond_true,qZ hj,je,qdE,wS j]
   cases inI t.Av[j] (-1000000) 1000000
   ·exact .done
   ·exact hX)
 unfold qir tableB
 refine Ev.bind (b:=!(axisB t.Bg&&(axisB t.Bf&&decide (t.Av.length=t.Bg.length*t.Bf.length)))) ?_ ?_
 ·refine Ev.bind (qns h.Bg.len) ?_
  cases axisB t.Bg
  ·exact .done
  ·refine Ev.ff rfl (Ev.bind (qns h.Bf.len) ?_)
   cases axisB t.Bf
   ·exact .done
   ·refine Ev.ff rfl (Ev.now ?_)
    rw [qmL h.Bg.len h.Bf.len]
    congr 1
    rw [jm];simp;omega
 ·cases axisB t.Bg
  ·exact .done
  ·cases axisB t.Bf
   ·exact .done
   ·cases decide (t.Av.length=t.Bg.length*t.Bf.length)
    ·exact .done
    ·refine Ev.ff rfl (Ev.bind hL ?_)
     cases (t.Av.all fun x=>inI x (-1000000) 1000000)<;>exact .done
end Go.Fw


namespace Go.Fw
open Go
set_option maxRecDepth 100000
instance:Inhabited qak:=⟨⟨ByteArray.empty,0,0,false⟩⟩
instance:Inhabited qX:=⟨⟨[],[],[]⟩⟩
instance:Inhabited qav:=⟨⟨0,0,0,0,[],[]⟩⟩
instance:Inhabited qt:=⟨⟨ByteArray.empty,0,[],[],[],0,0⟩⟩
instance:Inhabited qz:=⟨⟨ByteArray.empty,0,[]⟩⟩
instance:Inhabited qam:=⟨⟨ByteArray.empty,0,0⟩⟩
instance:Inhabited qae:=⟨⟨[],[],[],[]⟩⟩
theorem lastE {j m:Nat} (h:j<m) (hm:m≤1048576):((j:Int)==W64 ((m:Int)-1))=decide (j+1=m):=by
 rcases qtg h with h|h
 ·exact h
 ·omega
theorem qiu {α:Type} [Inhabited α] {xs:List α} {g:α→ByteArray} {j:Nat} (h:j<xs.length):strAt (xs.map g) j=g (gt xs j):=by
 rw [qlN (by simpa using h),qhS h];simp
theorem qkI {α:Type} {xs:List α} {g:α→ByteArray} {ok:α→Prop} (h:okL ok xs) (hg:∀ x,ok x→okS (g x)):okL okS (xs.map g) :=
 ⟨by rw [jH];exact h.1,fun y hy=>by
  obtain ⟨x,hx,rfl⟩:=List.mem_map.1 hy
  exact hg x (h.2 x hx)⟩
theorem qjq {α β:Type} {xs:List α} {g:α→β} {j:Nat} (h:j<xs.length) (hl:xs.length≤1048576) {y:β}:appS ((xs.take j).map g) [y]=some ((xs.take j).map g++[y]) :=
 qbL (by simp;omega)
def pinB (ps:List qak) (j:Nat):Bool :=
 bif decide (j+1=ps.length) then ((gt ps j).Bl==2)&&(((gt ps j).Bd==0)&&!(gt ps j).Bb) else ((gt ps j).Bl==1)&&inI (gt ps j).Bd 0 500
def pinsB (ps:List qak):Bool:=allN (pinB ps) ps.length&&(lenB ps 2 5&&namesB (ps.map qak.Au))
def clkN (ps:List qak) (j:Nat):Nat:=cntP (fun i=>(gt ps i).Bb) j
theorem qpQ {ps:List qak} (h:okL qjF ps):Ev (fun n=>qio n ps) (pinsB ps):=by
 have hl:=h.len
 have hL:Ev (fun n=>qcI ps n ([]:List ByteArray) 0) (bif allN (pinB ps) ps.length then .nxt (ps.map qak.Au,(ps.length:Int)) else .ret false):=by
  refine loopN (Lf:=qcI ps) (S:=fun j=>(ps.take j).map qak.Au) (pinB ps) (fun n=>?_) (fun j hj hp X hX=>?_)
  ·simp only [qcI,qj (jf _),cond_false,jB]
  ·simp only [qcI,qi hj,cond_true,qaa hj,je,qjq hj hl,qfu (g:=qak.Au) hj,lastE hj hl,bne,qaQ,qcN,wS j]
   generalize hc:pinB ps j=c at hX ⊢
   unfold pinB at hc
   cases hd:decide (j+1=ps.length)
   ·rw [hd] at hc
    simp only [cond_false] at hc ⊢
    subst hc
    exact Ev.okP (fun h1=>Ev.okP1 (fun h2=>hX (by rw [h1,h2];rfl)))
   ·rw [hd] at hc
    simp only [cond_true] at hc ⊢
    subst hc
    refine Ev.okP (fun h1=>Ev.okP (fun h2=>Ev.chkP1 (fun h3=>hX (by rw [h1,h2,h3];rfl))))
 unfold qio pinsB
 refine Ev.bind hL ?_
 cases allN (pinB ps) ps.length
 ·exact .done
 ·simp only [cond_true,qbF,qcN,je,show inI (ps.length:Int) 2 5=lenB ps 2 5 from qmN (lo:=2) (hi:=5),jJ]
  exact Ev.andP (fun _=>Ev.last (qhW (qkI h (fun x hx=>hx.Au))))
def pinS (ps:List qak) (j:Nat):Bool:=allN (neB (ps.map qak.Au) j) j&&((nameB (gt ps j).Au&&inI (gt ps j).Bd 0 500)&&(bif decide (j+1=ps.length) then ((gt ps j).Bl==2)&&(((gt ps j).Bd==0)&&!(gt ps j).Bb) else ((gt ps j).Bl==1)))
theorem qsR {ps:List qak}:(lenB ps 2 5&&allN (pinS ps) ps.length)=pinsB ps:=by
 have e:namesB (ps.map qak.Au)=allN (fun j=>nameB (gt ps j).Au&&allN (neB (ps.map qak.Au) j) j) ps.length:=by
  unfold namesB
  rw [jH]
  exact qgP (fun j hj=>by rw [qiu hj])
 unfold pinsB
 rw [e,←Ji,Bool.and_comm (allN (pinB ps) ps.length),Ji,←qiw]
 congr 1
 refine qgP (fun j hj=>?_)
 unfold pinS pinB
 cases hd:decide (j+1=ps.length)
 ·simp only [cond_false]
  cases allN (neB (ps.map qak.Au) j) j<;>cases nameB (gt ps j).Au<;>cases inI (gt ps j).Bd 0 500<;>cases ((gt ps j).Bl==1)<;>rfl
 ·simp only [cond_true]
  cases hcap:((gt ps j).Bd==0)
  ·simp
  ·have:inI (gt ps j).Bd 0 500=true:=by rw [beq_iff_eq] at hcap;rw [hcap];rfl
   rw [this]
   cases allN (neB (ps.map qak.Au) j) j<;>cases nameB (gt ps j).Au<;>cases ((gt ps j).Bl==2)<;>cases (gt ps j).Bb<;>rfl
theorem qpR {c:qt} (h:okL qjF c.Ap):Ev (fun n=>qil n c) (bif pinsB c.Ap then (((clkN c.Ap c.Ap.length:Nat):Int),true) else (0,false)):=by
 have hl:=h.len
 have hL2:∀ j,j<c.Ap.length→Ev (fun n=>qen c (j:Int) (gt c.Ap j) n 0) (bif allN (neB (c.Ap.map qak.Au) j) j then .nxt (j:Int) else .ret (0,false)):=by
  intro j hj
  refine qee ?_ (fun i hi X hX=>Ev.succ ?_)
  ·exact Ev.succ (by simp only [qen,qj (jf _),cond_false];exact .done)
  ·simp only [qen,qi hi,cond_true,qaa (show i<c.Ap.length by omega),je,qgw,wS i]
   unfold neB
   rw [qiu (g:=qak.Au) (show i<c.Ap.length by omega),qiu (g:=qak.Au) hj]
   exact Ev.chkP1 (fun _=>hX)
 have hL1:Ev (fun n=>qcJ c n 0 0) (bif allN (pinS c.Ap) c.Ap.length then .nxt (((clkN c.Ap c.Ap.length:Nat):Int),(c.Ap.length:Int)) else .ret (0,false)):=by
  refine loopN (Lf:=qcJ c) (S:=fun j=>((clkN c.Ap j:Nat):Int)) (pinS c.Ap) (fun n=>?_) (fun j hj hp X hX=>?_)
  ·simp only [qcJ,qj (jf _),cond_false]
  ·have hn:clkN c.Ap j≤j:=qeG
   have ejl:((j:Int)==W64 ((c.Ap.length:Int)-1))=decide (j+1=c.Ap.length):=lastE hj hl
   have elt:decide ((j:Int)<W64 ((c.Ap.length:Int)-1)) = !decide (j+1=c.Ap.length):=by
    rw [qaz (by omega) (by omega),jm];simp;omega
   simp only [qcJ,qi hj,cond_true,qaa hj,je,wS j,qix (show clkN c.Ap j<9223372036854775807 by omega),ejl,elt,qdE]
   unfold pinS
   refine Ev.bind (hL2 j hj) ?_
   cases ha:allN (neB (c.Ap.map qak.Au) j) j
   ·exact .done
   ·simp only [cond_true,jJ]
    refine Ev.chkT ?_ (fun h1=>?_)
    ·exact Ev.or (qlg (qhm h hj).Au) (fun _=>.done)
    ·refine Ev.chkT1 ?_ (fun h2=>?_)
     ·cases decide (j+1=c.Ap.length)
      ·exact .done
      ·simp only [cond_true,Jk,cond_false,bne,qaQ]
       cases ((gt c.Ap j).Bl==2)<;>cases ((gt c.Ap j).Bd==0)<;>cases (gt c.Ap j).Bb<;>exact .done
     ·have hX:=hX (by unfold pinS;rw [ha,h1,h2];rfl)
      have hck:clkN c.Ap (j+1)=clkN c.Ap j+(bif (gt c.Ap j).Bb then 1 else 0):=rfl
      rw [hck] at hX
      cases hc:(gt c.Ap j).Bb
      ·rw [hc] at hX;exact Ev.ff rfl hX
      ·rw [hc] at hX;exact Ev.tt rfl hX
 rw [←qsR]
 unfold qil
 refine Ev.guard ?_ (fun h1=>?_)
 ·unfold lenB
  have e1:decide ((c.Ap.length:Int)<2) = !decide (2≤c.Ap.length):=by rw [jm];simp;omega
  have e2:decide ((c.Ap.length:Int) > 5) = !decide (c.Ap.length≤5):=by rw [jm];simp;omega
  rw [e1,e2]
  cases decide (2≤c.Ap.length)<;>cases decide (c.Ap.length≤5)<;>exact .done
 ·refine Ev.bind hL1 ?_
  cases allN (pinS c.Ap) c.Ap.length<;>exact .done
def mnL (xs:List Int):Int:=(xs.drop 1).foldl (fun m y=>if y<m then y else m) (at0 xs 0)
def mxL (xs:List Int):Int:=(xs.drop 1).foldl (fun m y=>if y > m then y else m) (at0 xs 0)
theorem qnx {t:qX} (h:tableB t=true):1≤t.Av.length:=by
 unfold tableB axisB lenB at h
 simp only [jg,decide_eq_true_eq] at h
 obtain ⟨⟨⟨h1,_⟩,_⟩,⟨⟨h2,_⟩,_⟩,h3,_⟩:=h
 rw [h3]
 exact Nat.mul_pos h1 h2
theorem qsY {xs:List Int} (h1:1≤xs.length) (hl:xs.length≤1048576):Ev (fun n=>qgs n xs) (mnL xs):=by
 have hL:=(qmh (Lf:=fun n t j=>qcC xs n t j) (xs:=xs) (step:=fun (m y:Int)=>if y<m then y else m) (fin:=fun t=>(t,(xs.length:Int))) 1 (at0 xs 0) (fun _ _=>True) h1 trivial (fun _ _ _ _=>trivial)
  (fun n t=>by simp only [qcC,qj (jf _),cond_false])
  (fun j t hj _ X hX=>by simpa only [qcC,qi hj,cond_true,qZ hj,je,wS j] using hX)).1
 unfold qgs
 rw [show decide ((xs.length:Int)<1)=false by simp;omega,show idx xs (0:Int)=some (at0 xs 0) from qaN (j:=0) (by omega)]
 simp only [cond_false,je]
 exact Ev.bind hL .done
theorem qpS {t:qX} (h:qhk t):Ev (fun n=>qgj n t) (bif tableB t then (⟨mnL t.Av,mxL t.Av⟩,0) else (⟨0,0⟩,1)):=by
 unfold qgj
 refine Ev.chk1 (qpw h) (fun hb=>?_)
 have h1:=qnx hb
 have hl:=h.Av.len
 have hL:=(qmh (Lf:=fun n (t':Int × Int) j=>qcx t n t'.1 t'.2 j) (xs:=t.Av) (step:=fun (m:Int × Int) y=>(if y<m.1 then y else m.1,if y > m.2 then y else m.2)) (fin:=fun t'=>(t'.1,t'.2,(t.Av.length:Int))) 1 (at0 t.Av 0,at0 t.Av 0) (fun _ _=>True) h1 trivial (fun _ _ _ _=>trivial)
  (fun n t=>by simp only [qcx,qj (jf _),cond_false])
  (fun j t hj _ X hX=>by simpa only [qcx,qi hj,cond_true,qZ hj,je,wS j] using hX)).1
 have hf:∀ (ys:List Int) (a b:Int),ys.foldl (fun (m:Int × Int) y=>(if y<m.1 then y else m.1,if y > m.2 then y else m.2)) (a,b)=(ys.foldl (fun m y=>if y<m then y else m) a,ys.foldl (fun m y=>if y > m then y else m) b):=by
  intro ys
  induction ys with
  | nil=>intro a b;rfl
  | cons y ys ih=>intro a b;simp only [List.foldl_cons,ih]
 rw [hf] at hL
 rw [show idx t.Av (0:Int)=some (at0 t.Av 0) from qaN (j:=0) (by omega)]
 simp only [je]
 exact Ev.bind hL .done
def tabB (pos:Bool) (t:qX):Bool:=tableB t&&(!pos || decide (0≤mnL t.Av))
def tablesB (ts:List qX) (pos:Bool):Bool:=decide (ts.length=2)&&ts.all (tabB pos)
theorem qjU {ts:List qX} {pos:Bool} (h:okL qhk ts):Ev (fun n=>qff n ts pos) (tablesB ts pos):=by
 have hl:=h.len
 have h1:Ev (fun n=>qaE n ts pos) (ixL (fun x=>!tabB pos x) ts) :=
  qdA (fin:=(ts.length:Int)) (Lf:=qP ts pos) (pf:=fun n x=>qgq n x pos) (fun x hx=>by
    unfold qgq tabB
    refine Ev.or (qp7 (h.2 x hx)) (fun hb=>?_)
    cases pos
    ·exact .done
    ·refine Ev.tt rfl (Ev.bind (qsY (qnx hb) (h.2 x hx).Av.len) (Ev.now ?_))
     congr 1
     rw [jm];simp)
   (fun n=>by simp only [qP,qj (jf _),cond_false])
   (fun n j x hx=>by
    have hj:=(List.getElem?_eq_some_iff.1 hx).1
    simp only [qP,qi hj,cond_true,qfY hx,je,wS j])
   (fun n=>by unfold qaE;congr 1;funext o;cases o<;>rfl)
 unfold qff qaX tablesB
 rw [show ((ts.length:Int)==2)=decide (ts.length=2) by rw [jm];simp;omega]
 refine Ev.andP (fun _=>Ev.bind (Ev.bind h1 (Ev.now rfl)) (Ev.now ?_))
 rw [qh4,qlI]
theorem qgY {ts:List qX} {pos:Bool} (h:okL qhk ts):Ev (fun n=>qc3 n ts pos) (tablesB ts pos):=by
 unfold qc3 tablesB
 rw [show ((ts.length:Int) != 2) = !decide (ts.length=2) by rw [jm];simp;omega]
 simp only [qaQ]
 refine Ev.andP (fun h2=>?_)
 have h2:ts.length=2:=by simpa using h2
 have hL:Ev (fun n=>qct ts pos n 0) (bif allN (fun j=>tabB pos (gt ts j)) ts.length then .nxt (2:Int) else .ret false):=by
  refine qee (len:=ts.length) ?_ (fun j hj X hX=>Ev.succ ?_)
  ·rw [h2];exact Ev.succ (by simp only [qct];exact .done)
  ·simp only [qct,show decide ((j:Int)<2)=true by simp;omega,cond_true,qaa hj,je,wS j]
   refine Ev.bind (qpS (qhm h hj)) ?_
   unfold tabB
   cases tableB (gt ts j)
   ·exact .done
   ·simp only [cond_true,jJ]
    refine Ev.ff rfl ?_
    cases pos
    ·exact hX
    ·refine Ev.tt rfl ?_
     rw [show decide (mnL (gt ts j).Av<0) = !decide (0≤mnL (gt ts j).Av) by rw [jm];simp]
     simp only [qaQ]
     exact Ev.okP1 (fun _=>hX)
 rw [qhr]
 refine Ev.bind hL ?_
 cases allN (fun j=>tabB pos (gt ts j)) ts.length<;>exact .done
end Go.Fw
