/- By a program of mine (gen.py): for each function a plain function and the proof that the code computes it. -/
import Derived.Test.YtflinekphmgbeaaGreatDoorFw38
import Derived.Test.YtflinekphmgbeaaGreatDoorChecked
import Derived.Test.YtflinekphmgbeaaGreatDoorS1
open Option renaming bind_some → ja
open Nat renaming le_refl → jb, mul_le_mul_right → jm, le_of_ble_eq_true → jq, lt_of_lt_of_le → js, succ_mul → jF, zero_add → jU
open Bool renaming and_eq_true → jc, eq_iff_iff → jh, true_and → jw, not_eq_true' → jE, not_true → jW
open Go.Result renaming andThen_ok → jd
open List renaming length_append → je, getElem?_eq_getElem → jf, mem_cons_of_mem → jk, length_singleton → jn, getElem_mem → jo, append_assoc → jp, getElem?_append_left → jr, mem_cons_self → jt, take_succ_eq_append_getElem → ju, length_map → jv, getElem?_take → jx, getElem?_append_right → jy, getD_eq_getElem?_getD → jz, getElem?_toArray → jA, take_length → jB, eq_nil_of_length_eq_zero → jC, drop_eq_getElem_cons → jD, not_mem_nil → jH, length_replicate → jI, size_toArray → jJ, all_eq_true → jM, length_take → jN, getElem_of_mem → jO, map_append → jP, mem_cons → jR, ext_getElem → jT
open Go.Sem renaming run_bind → jg, run_pure → ji
open Int renaming toNat_natCast → jj, tdiv_eq_ediv_of_nonneg → jG, mul_nonneg → jL, mul_assoc → jQ, mul_le_mul → jS, le_refl → jV
open Array renaming getElem?_append_left → jK

namespace Go.Fw
open Go Go.Proofs
open Go.RowKit (Below)
set_option maxRecDepth 100000
set_option maxHeartbeats 1600000
variable {n:Nat} {w:World} {S:Nat→Prop} {cs1 cs2 cs3 cs4 cs5 cs6 cs7 cs8 cs9:List Value}
structure qaq where
 Bb:ByteArray
 Bv:Int
 Bt:Int
 Bq:Bool
instance gt_TPin:GoT qaq:=isoT (pairT instStr (pairT instInt (pairT instInt instBool))) (fun x=>(x.Bb,x.Bv,x.Bt,x.Bq)) ⟨ByteArray.empty,0,0,false⟩ rfl true (fun h=>by cases h)
instance fl_TPin:Flat qaq:=qhc (pairT instStr (pairT instInt (pairT instInt instBool))) (fun x:qaq=>(x.Bb,x.Bv,x.Bt,x.Bq)) ⟨ByteArray.empty,0,0,false⟩ rfl true (fun h=>by cases h) (qbd _ _ (inferInstanceAs (Flat ByteArray)) (qbd _ _ (inferInstanceAs (Flat Int)) (qbd _ _ (inferInstanceAs (Flat Int)) (inferInstanceAs (Flat Bool)))))
abbrev qou (x:qaq):List Value:=[.string x.Bb,.int .i64 x.Bv,.int .i64 x.Bt,.bool x.Bq]
theorem qbq {x:qaq} {cs:List Value} (h:GoT.R w S x cs):cs=(qou x):=by
 obtain ⟨_,_,rfl,rfl,⟨_,_,rfl,rfl,⟨_,_,rfl,rfl,rfl⟩⟩⟩:=h
 exact rfl
theorem qi1 (x:qaq):GoT.R w S x (qou x):=have h:=pR (rT x.Bb) (pR (rI x.Bv) (pR (rI x.Bt) (rB x.Bq)));h
structure qv where
 Bm:(List Int)
 Bj:(List Int)
 Bh:(List Int)
instance gt_TTable:GoT qv:=isoT (pairT (@instList Int instInt) (pairT (@instList Int instInt) (@instList Int instInt))) (fun x=>(x.Bm,x.Bj,x.Bh)) ⟨[],[],[]⟩ rfl true (fun h=>by cases h)
abbrev qgj (x:qv) (p0 p1 p2:Option Addr) (k0 k1 k2:Nat):List Value:=[.slice p0 (x.Bm).length k0,.slice p1 (x.Bj).length k1,.slice p2 (x.Bh).length k2]
theorem qaD {x:qv} {cs:List Value} (h:GoT.R w S x cs):∃ p0 k0 p1 k1 p2 k2,cs=(qgj x p0 p1 p2 k0 k1 k2)∧SlR w S x.Bm p0 k0∧SlR w S x.Bj p1 k1∧SlR w S x.Bh p2 k2:=by
 obtain ⟨_,_,rfl,⟨p0,k0,rfl,s0⟩,⟨_,_,rfl,⟨p1,k1,rfl,s1⟩,⟨p2,k2,rfl,s2⟩⟩⟩:=h
 exact ⟨p0,k0,p1,k1,p2,k2,rfl,s0,s1,s2⟩
theorem qeT (x:qv) {p0 p1 p2:Option Addr} {k0 k1 k2:Nat} (s0:SlR w S x.Bm p0 k0) (s1:SlR w S x.Bj p1 k1) (s2:SlR w S x.Bh p2 k2):GoT.R w S x (qgj x p0 p1 p2 k0 k1 k2):=have h:=pR (rS s0) (pR (rS s1) (rS s2));h
theorem qvm {w0:World} {L:List Ch} (x:qv) {I0 I1 I2:List Nat} {c0 c1 c2:List Value} (h:SH w0 w L) (h0:PO w L I0 x.Bm c0) (h1:PO w L I1 x.Bj c1) (h2:PO w L I2 x.Bh c2) (b0:apartB I0 (I1++I2)=true) (b1:apartB I1 I2=true):PO w L (I0++(I1++I2)) x (c0++(c1++c2)) :=
 (qbR h h0 (qbR h h1 h2 b1) b0)
structure qP where
 Bf:Int
 Bk:Int
 To:Int
 Bn:Int
 Bp:(List qv)
 Bc:(List qv)
instance gt_TArc:GoT qP:=isoT (pairT instInt (pairT instInt (pairT instInt (pairT instInt (pairT (@instList qv gt_TTable) (@instList qv gt_TTable)))))) (fun x=>(x.Bf,x.Bk,x.To,x.Bn,x.Bp,x.Bc)) ⟨0,0,0,0,[],[]⟩ rfl true (fun h=>by cases h)
abbrev qgo (x:qP) (p0 p1:Option Addr) (k0 k1:Nat):List Value:=[.int .i64 x.Bf,.int .i64 x.Bk,.int .i64 x.To,.int .i64 x.Bn,.slice p0 (x.Bp).length k0,.slice p1 (x.Bc).length k1]
theorem qag {x:qP} {cs:List Value} (h:GoT.R w S x cs):∃ p0 k0 p1 k1,cs=(qgo x p0 p1 k0 k1)∧SlR w S x.Bp p0 k0∧SlR w S x.Bc p1 k1:=by
 obtain ⟨_,_,rfl,rfl,⟨_,_,rfl,rfl,⟨_,_,rfl,rfl,⟨_,_,rfl,rfl,⟨_,_,rfl,⟨p0,k0,rfl,s0⟩,⟨p1,k1,rfl,s1⟩⟩⟩⟩⟩⟩:=h
 exact ⟨p0,k0,p1,k1,rfl,s0,s1⟩
theorem qfo (x:qP) {p0 p1:Option Addr} {k0 k1:Nat} (s0:SlR w S x.Bp p0 k0) (s1:SlR w S x.Bc p1 k1):GoT.R w S x (qgo x p0 p1 k0 k1):=have h:=pR (rI x.Bf) (pR (rI x.Bk) (pR (rI x.To) (pR (rI x.Bn) (pR (rS s0) (rS s1)))));h
theorem qxl {w0:World} {L:List Ch} (x:qP) {I0 I1 I2 I3 I4 I5:List Nat} {c0 c1 c2 c3 c4 c5:List Value} (h:SH w0 w L) (h0:PO w L I0 x.Bf c0) (h1:PO w L I1 x.Bk c1) (h2:PO w L I2 x.To c2) (h3:PO w L I3 x.Bn c3) (h4:PO w L I4 x.Bp c4) (h5:PO w L I5 x.Bc c5) (b0:apartB I0 (I1++(I2++(I3++(I4++I5))))=true) (b1:apartB I1 (I2++(I3++(I4++I5)))=true) (b2:apartB I2 (I3++(I4++I5))=true) (b3:apartB I3 (I4++I5)=true) (b4:apartB I4 I5=true):PO w L (I0++(I1++(I2++(I3++(I4++I5))))) x (c0++(c1++(c2++(c3++(c4++c5))))) :=
 (qbR h h0 (qbR h h1 (qbR h h2 (qbR h h3 (qbR h h4 h5 b4) b3) b2) b1) b0)
structure qB where
 Bb:ByteArray
 Bf:Int
 Be:(List qaq)
 Au:(List qP)
 Br:(List Int)
 Ca:Int
 Bu:Int
instance gt_TCell:GoT qB:=isoT (pairT instStr (pairT instInt (pairT (@instList qaq gt_TPin) (pairT (@instList qP gt_TArc) (pairT (@instList Int instInt) (pairT instInt instInt)))))) (fun x=>(x.Bb,x.Bf,x.Be,x.Au,x.Br,x.Ca,x.Bu)) ⟨ByteArray.empty,0,[],[],[],0,0⟩ rfl true (fun h=>by cases h)
abbrev qdQ (x:qB) (p0 p1 p2:Option Addr) (k0 k1 k2:Nat):List Value:=[.string x.Bb,.int .i64 x.Bf,.slice p0 (x.Be).length k0,.slice p1 (x.Au).length k1,.slice p2 (x.Br).length k2,.int .i64 x.Ca,.int .i64 x.Bu]
theorem qac {x:qB} {cs:List Value} (h:GoT.R w S x cs):∃ p0 k0 p1 k1 p2 k2,cs=(qdQ x p0 p1 p2 k0 k1 k2)∧SlR w S x.Be p0 k0∧SlR w S x.Au p1 k1∧SlR w S x.Br p2 k2:=by
 obtain ⟨_,_,rfl,rfl,⟨_,_,rfl,rfl,⟨_,_,rfl,⟨p0,k0,rfl,s0⟩,⟨_,_,rfl,⟨p1,k1,rfl,s1⟩,⟨_,_,rfl,⟨p2,k2,rfl,s2⟩,⟨_,_,rfl,rfl,rfl⟩⟩⟩⟩⟩⟩:=h
 exact ⟨p0,k0,p1,k1,p2,k2,rfl,s0,s1,s2⟩
theorem qjV (x:qB) {p0 p1 p2:Option Addr} {k0 k1 k2:Nat} (s0:SlR w S x.Be p0 k0) (s1:SlR w S x.Au p1 k1) (s2:SlR w S x.Br p2 k2):GoT.R w S x (qdQ x p0 p1 p2 k0 k1 k2):=have h:=pR (rT x.Bb) (pR (rI x.Bf) (pR (rS s0) (pR (rS s1) (pR (rS s2) (pR (rI x.Ca) (rI x.Bu))))));h
theorem qwS {w0:World} {L:List Ch} (x:qB) {I0 I1 I2 I3 I4 I5 I6:List Nat} {c0 c1 c2 c3 c4 c5 c6:List Value} (h:SH w0 w L) (h0:PO w L I0 x.Bb c0) (h1:PO w L I1 x.Bf c1) (h2:PO w L I2 x.Be c2) (h3:PO w L I3 x.Au c3) (h4:PO w L I4 x.Br c4) (h5:PO w L I5 x.Ca c5) (h6:PO w L I6 x.Bu c6) (b0:apartB I0 (I1++(I2++(I3++(I4++(I5++I6)))))=true) (b1:apartB I1 (I2++(I3++(I4++(I5++I6))))=true) (b2:apartB I2 (I3++(I4++(I5++I6)))=true) (b3:apartB I3 (I4++(I5++I6))=true) (b4:apartB I4 (I5++I6)=true) (b5:apartB I5 I6=true):PO w L (I0++(I1++(I2++(I3++(I4++(I5++I6)))))) x (c0++(c1++(c2++(c3++(c4++(c5++c6)))))) :=
 (qbR h h0 (qbR h h1 (qbR h h2 (qbR h h3 (qbR h h4 (qbR h h5 h6 b5) b4) b3) b2) b1) b0)
structure qp where
 Aq:(List qB)
instance gt_TLibrary:GoT qp:=isoT (@instList qB gt_TCell) (fun x=>x.Aq) ⟨[]⟩ rfl true (fun h=>by cases h)
theorem qbw {x:qp} {cs:List Value} (h:GoT.R w S x cs):∃ p0 k0,cs=[.slice p0 (x.Aq).length k0]∧SlR w S x.Aq p0 k0:=by
 obtain ⟨p0,k0,rfl,s0⟩:=h
 exact ⟨p0,k0,rfl,s0⟩
theorem qdR (x:qp) {p0:Option Addr} {k0:Nat} (s0:SlR w S x.Aq p0 k0):GoT.R w S x [.slice p0 (x.Aq).length k0]:=have h:=rS s0;h
theorem qs2 {w0:World} {L:List Ch} (x:qp) {I0:List Nat} {c0:List Value} (_:SH w0 w L) (h0:PO w L I0 x.Aq c0):PO w L I0 x c0 :=
 h0
structure qn where
 Bb:ByteArray
 Bs:Int
 Am:(List Int)
instance gt_TInstance:GoT qn:=isoT (pairT instStr (pairT instInt (@instList Int instInt))) (fun x=>(x.Bb,x.Bs,x.Am)) ⟨ByteArray.empty,0,[]⟩ rfl true (fun h=>by cases h)
abbrev qi4 (x:qn) (p0:Option Addr) (k0:Nat):List Value:=[.string x.Bb,.int .i64 x.Bs,.slice p0 (x.Am).length k0]
theorem qO {x:qn} {cs:List Value} (h:GoT.R w S x cs):∃ p0 k0,cs=(qi4 x p0 k0)∧SlR w S x.Am p0 k0:=by
 obtain ⟨_,_,rfl,rfl,⟨_,_,rfl,rfl,⟨p0,k0,rfl,s0⟩⟩⟩:=h
 exact ⟨p0,k0,rfl,s0⟩
theorem qf0 (x:qn) {p0:Option Addr} {k0:Nat} (s0:SlR w S x.Am p0 k0):GoT.R w S x (qi4 x p0 k0):=have h:=pR (rT x.Bb) (pR (rI x.Bs) (rS s0));h
theorem qrZ {w0:World} {L:List Ch} (x:qn) {I0 I1 I2:List Nat} {c0 c1 c2:List Value} (h:SH w0 w L) (h0:PO w L I0 x.Bb c0) (h1:PO w L I1 x.Bs c1) (h2:PO w L I2 x.Am c2) (b0:apartB I0 (I1++I2)=true) (b1:apartB I1 I2=true):PO w L (I0++(I1++I2)) x (c0++(c1++c2)) :=
 (qbR h h0 (qbR h h1 h2 b1) b0)
structure qam where
 Bb:ByteArray
 Bv:Int
 Bx:Int
instance gt_TPort:GoT qam:=isoT (pairT instStr (pairT instInt instInt)) (fun x=>(x.Bb,x.Bv,x.Bx)) ⟨ByteArray.empty,0,0⟩ rfl true (fun h=>by cases h)
instance fl_TPort:Flat qam:=qhc (pairT instStr (pairT instInt instInt)) (fun x:qam=>(x.Bb,x.Bv,x.Bx)) ⟨ByteArray.empty,0,0⟩ rfl true (fun h=>by cases h) (qbd _ _ (inferInstanceAs (Flat ByteArray)) (qbd _ _ (inferInstanceAs (Flat Int)) (inferInstanceAs (Flat Int))))
abbrev qpV (x:qam):List Value:=[.string x.Bb,.int .i64 x.Bv,.int .i64 x.Bx]
theorem qbj {x:qam} {cs:List Value} (h:GoT.R w S x cs):cs=(qpV x):=by
 obtain ⟨_,_,rfl,rfl,⟨_,_,rfl,rfl,rfl⟩⟩:=h
 exact rfl
theorem qiw (x:qam):GoT.R w S x (qpV x):=have h:=pR (rT x.Bb) (pR (rI x.Bv) (rI x.Bx));h
structure qd where
 Aa:(List qn)
 Am:(List ByteArray)
 Aj:(List qam)
instance gt_TDesign:GoT qd:=isoT (pairT (@instList qn gt_TInstance) (pairT (@instList ByteArray instStr) (@instList qam gt_TPort))) (fun x=>(x.Aa,x.Am,x.Aj)) ⟨[],[],[]⟩ rfl true (fun h=>by cases h)
abbrev qaH (x:qd) (p0 p1 p2:Option Addr) (k0 k1 k2:Nat):List Value:=[.slice p0 (x.Aa).length k0,.slice p1 (x.Am).length k1,.slice p2 (x.Aj).length k2]
theorem qat {x:qd} {cs:List Value} (h:GoT.R w S x cs):∃ p0 k0 p1 k1 p2 k2,cs=(qaH x p0 p1 p2 k0 k1 k2)∧SlR w S x.Aa p0 k0∧SlR w S x.Am p1 k1∧SlR w S x.Aj p2 k2:=by
 obtain ⟨_,_,rfl,⟨p0,k0,rfl,s0⟩,⟨_,_,rfl,⟨p1,k1,rfl,s1⟩,⟨p2,k2,rfl,s2⟩⟩⟩:=h
 exact ⟨p0,k0,p1,k1,p2,k2,rfl,s0,s1,s2⟩
theorem qao (x:qd) {p0 p1 p2:Option Addr} {k0 k1 k2:Nat} (s0:SlR w S x.Aa p0 k0) (s1:SlR w S x.Am p1 k1) (s2:SlR w S x.Aj p2 k2):GoT.R w S x (qaH x p0 p1 p2 k0 k1 k2):=have h:=pR (rS s0) (pR (rS s1) (rS s2));h
theorem qtK {w0:World} {L:List Ch} (x:qd) {I0 I1 I2:List Nat} {c0 c1 c2:List Value} (h:SH w0 w L) (h0:PO w L I0 x.Aa c0) (h1:PO w L I1 x.Am c1) (h2:PO w L I2 x.Aj c2) (b0:apartB I0 (I1++I2)=true) (b1:apartB I1 I2=true):PO w L (I0++(I1++I2)) x (c0++(c1++c2)) :=
 (qbR h h0 (qbR h h1 h2 b1) b0)
structure qQ where
 Ak:(List Int)
 Bw:(List Int)
 Bt:(List Int)
 Bl:(List Int)
instance gt_TWire:GoT qQ:=isoT (pairT (@instList Int instInt) (pairT (@instList Int instInt) (pairT (@instList Int instInt) (@instList Int instInt)))) (fun x=>(x.Ak,x.Bw,x.Bt,x.Bl)) ⟨[],[],[],[]⟩ rfl true (fun h=>by cases h)
abbrev qf8 (x:qQ) (p0 p1 p2 p3:Option Addr) (k0 k1 k2 k3:Nat):List Value:=[.slice p0 (x.Ak).length k0,.slice p1 (x.Bw).length k1,.slice p2 (x.Bt).length k2,.slice p3 (x.Bl).length k3]
theorem qaL {x:qQ} {cs:List Value} (h:GoT.R w S x cs):∃ p0 k0 p1 k1 p2 k2 p3 k3,cs=(qf8 x p0 p1 p2 p3 k0 k1 k2 k3)∧SlR w S x.Ak p0 k0∧SlR w S x.Bw p1 k1∧SlR w S x.Bt p2 k2∧SlR w S x.Bl p3 k3:=by
 obtain ⟨_,_,rfl,⟨p0,k0,rfl,s0⟩,⟨_,_,rfl,⟨p1,k1,rfl,s1⟩,⟨_,_,rfl,⟨p2,k2,rfl,s2⟩,⟨p3,k3,rfl,s3⟩⟩⟩⟩:=h
 exact ⟨p0,k0,p1,k1,p2,k2,p3,k3,rfl,s0,s1,s2,s3⟩
theorem qjZ (x:qQ) {p0 p1 p2 p3:Option Addr} {k0 k1 k2 k3:Nat} (s0:SlR w S x.Ak p0 k0) (s1:SlR w S x.Bw p1 k1) (s2:SlR w S x.Bt p2 k2) (s3:SlR w S x.Bl p3 k3):GoT.R w S x (qf8 x p0 p1 p2 p3 k0 k1 k2 k3):=have h:=pR (rS s0) (pR (rS s1) (pR (rS s2) (rS s3)));h
theorem qwQ {w0:World} {L:List Ch} (x:qQ) {I0 I1 I2 I3:List Nat} {c0 c1 c2 c3:List Value} (h:SH w0 w L) (h0:PO w L I0 x.Ak c0) (h1:PO w L I1 x.Bw c1) (h2:PO w L I2 x.Bt c2) (h3:PO w L I3 x.Bl c3) (b0:apartB I0 (I1++(I2++I3))=true) (b1:apartB I1 (I2++I3)=true) (b2:apartB I2 I3=true):PO w L (I0++(I1++(I2++I3))) x (c0++(c1++(c2++c3))) :=
 (qbR h h0 (qbR h h1 (qbR h h2 h3 b2) b1) b0)
structure qf where
 Av:qp
 Ab:qd
 Ac:(List qQ)
instance gt_TBlock:GoT qf:=isoT (pairT gt_TLibrary (pairT gt_TDesign (@instList qQ gt_TWire))) (fun x=>(x.Av,x.Ab,x.Ac)) ⟨(⟨[]⟩:qp),(⟨[],[],[]⟩:qd),[]⟩ rfl true (fun h=>by cases h)
abbrev qaQ (x:qf) (p0 p1 p2 p3 p4:Option Addr) (k0 k1 k2 k3 k4:Nat):List Value:=[.slice p0 (x.Av.Aq).length k0,.slice p1 (x.Ab.Aa).length k1,.slice p2 (x.Ab.Am).length k2,.slice p3 (x.Ab.Aj).length k3,.slice p4 (x.Ac).length k4]
theorem qab {x:qf} {cs:List Value} (h:GoT.R w S x cs):∃ p0 k0 p1 k1 p2 k2 p3 k3 p4 k4,cs=(qaQ x p0 p1 p2 p3 p4 k0 k1 k2 k3 k4)∧SlR w S x.Av.Aq p0 k0∧SlR w S x.Ab.Aa p1 k1∧SlR w S x.Ab.Am p2 k2∧SlR w S x.Ab.Aj p3 k3∧SlR w S x.Ac p4 k4:=by
 obtain ⟨_,_,rfl,⟨p0,k0,rfl,s0⟩,⟨_,_,rfl,⟨_,_,rfl,⟨p1,k1,rfl,s1⟩,⟨_,_,rfl,⟨p2,k2,rfl,s2⟩,⟨p3,k3,rfl,s3⟩⟩⟩,⟨p4,k4,rfl,s4⟩⟩⟩:=h
 exact ⟨p0,k0,p1,k1,p2,k2,p3,k3,p4,k4,rfl,s0,s1,s2,s3,s4⟩
theorem qfD (x:qf) {p0 p1 p2 p3 p4:Option Addr} {k0 k1 k2 k3 k4:Nat} (s0:SlR w S x.Av.Aq p0 k0) (s1:SlR w S x.Ab.Aa p1 k1) (s2:SlR w S x.Ab.Am p2 k2) (s3:SlR w S x.Ab.Aj p3 k3) (s4:SlR w S x.Ac p4 k4):GoT.R w S x (qaQ x p0 p1 p2 p3 p4 k0 k1 k2 k3 k4):=have h:=pR (qdR x.Av s0) (pR (qao x.Ab s1 s2 s3) (rS s4));h
theorem qve {w0:World} {L:List Ch} (x:qf) {I0 I1 I2:List Nat} {c0 c1 c2:List Value} (h:SH w0 w L) (h0:PO w L I0 x.Av c0) (h1:PO w L I1 x.Ab c1) (h2:PO w L I2 x.Ac c2) (b0:apartB I0 (I1++I2)=true) (b1:apartB I1 I2=true):PO w L (I0++(I1++I2)) x (c0++(c1++c2)) :=
 (qbR h h0 (qbR h h1 h2 b1) b0)
structure qr where
 Bb:ByteArray
 As:Int
 Az:Int
 Ar:Int
 Ba:Int
instance gt_TCorner:GoT qr:=isoT (pairT instStr (pairT instInt (pairT instInt (pairT instInt instInt)))) (fun x=>(x.Bb,x.As,x.Az,x.Ar,x.Ba)) ⟨ByteArray.empty,0,0,0,0⟩ rfl true (fun h=>by cases h)
instance fl_TCorner:Flat qr:=qhc (pairT instStr (pairT instInt (pairT instInt (pairT instInt instInt)))) (fun x:qr=>(x.Bb,x.As,x.Az,x.Ar,x.Ba)) ⟨ByteArray.empty,0,0,0,0⟩ rfl true (fun h=>by cases h) (qbd _ _ (inferInstanceAs (Flat ByteArray)) (qbd _ _ (inferInstanceAs (Flat Int)) (qbd _ _ (inferInstanceAs (Flat Int)) (qbd _ _ (inferInstanceAs (Flat Int)) (inferInstanceAs (Flat Int))))))
abbrev qbT (x:qr):List Value:=[.string x.Bb,.int .i64 x.As,.int .i64 x.Az,.int .i64 x.Ar,.int .i64 x.Ba]
theorem qaB {x:qr} {cs:List Value} (h:GoT.R w S x cs):cs=(qbT x):=by
 obtain ⟨_,_,rfl,rfl,⟨_,_,rfl,rfl,⟨_,_,rfl,rfl,⟨_,_,rfl,rfl,rfl⟩⟩⟩⟩:=h
 exact rfl
theorem qdl (x:qr):GoT.R w S x (qbT x):=have h:=pR (rT x.Bb) (pR (rI x.As) (pR (rI x.Az) (pR (rI x.Ar) (rI x.Ba))));h
structure qe where
 Ap:Int
 Bd:Int
instance gt_TSpan:GoT qe:=isoT (pairT instInt instInt) (fun x=>(x.Ap,x.Bd)) ⟨0,0⟩ rfl true (fun h=>by cases h)
instance fl_TSpan:Flat qe:=qhc (pairT instInt instInt) (fun x:qe=>(x.Ap,x.Bd)) ⟨0,0⟩ rfl true (fun h=>by cases h) (qbd _ _ (inferInstanceAs (Flat Int)) (inferInstanceAs (Flat Int)))
abbrev qht (x:qe):List Value:=[.int .i64 x.Ap,.int .i64 x.Bd]
theorem qy {x:qe} {cs:List Value} (h:GoT.R w S x cs):cs=(qht x):=by
 obtain ⟨_,_,rfl,rfl,rfl⟩:=h
 exact rfl
theorem qz (x:qe):GoT.R w S x (qht x):=have h:=pR (rI x.Ap) (rI x.Bd);h
structure qg where
 Bo:Int
 Ah:qe
 Bc:qe
instance gt_TSource:GoT qg:=isoT (pairT instInt (pairT gt_TSpan gt_TSpan)) (fun x=>(x.Bo,x.Ah,x.Bc)) ⟨0,(⟨0,0⟩:qe),(⟨0,0⟩:qe)⟩ rfl true (fun h=>by cases h)
instance fl_TSource:Flat qg:=qhc (pairT instInt (pairT gt_TSpan gt_TSpan)) (fun x:qg=>(x.Bo,x.Ah,x.Bc)) ⟨0,(⟨0,0⟩:qe),(⟨0,0⟩:qe)⟩ rfl true (fun h=>by cases h) (qbd _ _ (inferInstanceAs (Flat Int)) (qbd _ _ (inferInstanceAs (Flat qe)) (inferInstanceAs (Flat qe))))
abbrev qe9 (x:qg):List Value:=[.int .i64 x.Bo,.int .i64 x.Ah.Ap,.int .i64 x.Ah.Bd,.int .i64 x.Bc.Ap,.int .i64 x.Bc.Bd]
theorem qJ {x:qg} {cs:List Value} (h:GoT.R w S x cs):cs=(qe9 x):=by
 obtain ⟨_,_,rfl,rfl,⟨_,_,rfl,⟨_,_,rfl,rfl,rfl⟩,⟨_,_,rfl,rfl,rfl⟩⟩⟩:=h
 exact rfl
theorem qb5 (x:qg):GoT.R w S x (qe9 x):=have h:=pR (rI x.Bo) (pR (qz x.Ah) (qz x.Bc));h
structure qa0 where
 Af:qf
 Ai:qr
 Bi:(List Int)
 Ay:(List qg)
instance gt_TJob:GoT qa0:=isoT (pairT gt_TBlock (pairT gt_TCorner (pairT (@instList Int instInt) (@instList qg gt_TSource)))) (fun x=>(x.Af,x.Ai,x.Bi,x.Ay)) ⟨(⟨(⟨[]⟩:qp),(⟨[],[],[]⟩:qd),[]⟩:qf),(⟨ByteArray.empty,0,0,0,0⟩:qr),[],[]⟩ rfl true (fun h=>by cases h)
abbrev qsr (x:qa0) (p0 p1 p2 p3 p4 p5 p6:Option Addr) (k0 k1 k2 k3 k4 k5 k6:Nat):List Value:=[.slice p0 (x.Af.Av.Aq).length k0,.slice p1 (x.Af.Ab.Aa).length k1,.slice p2 (x.Af.Ab.Am).length k2,.slice p3 (x.Af.Ab.Aj).length k3,.slice p4 (x.Af.Ac).length k4,.string x.Ai.Bb,.int .i64 x.Ai.As,.int .i64 x.Ai.Az,.int .i64 x.Ai.Ar,.int .i64 x.Ai.Ba,.slice p5 (x.Bi).length k5,.slice p6 (x.Ay).length k6]
theorem qc4 {x:qa0} {cs:List Value} (h:GoT.R w S x cs):∃ p0 k0 p1 k1 p2 k2 p3 k3 p4 k4 p5 k5 p6 k6,cs=(qsr x p0 p1 p2 p3 p4 p5 p6 k0 k1 k2 k3 k4 k5 k6)∧SlR w S x.Af.Av.Aq p0 k0∧SlR w S x.Af.Ab.Aa p1 k1∧SlR w S x.Af.Ab.Am p2 k2∧SlR w S x.Af.Ab.Aj p3 k3∧SlR w S x.Af.Ac p4 k4∧SlR w S x.Bi p5 k5∧SlR w S x.Ay p6 k6:=by
 obtain ⟨_,_,rfl,⟨_,_,rfl,⟨p0,k0,rfl,s0⟩,⟨_,_,rfl,⟨_,_,rfl,⟨p1,k1,rfl,s1⟩,⟨_,_,rfl,⟨p2,k2,rfl,s2⟩,⟨p3,k3,rfl,s3⟩⟩⟩,⟨p4,k4,rfl,s4⟩⟩⟩,⟨_,_,rfl,⟨_,_,rfl,rfl,⟨_,_,rfl,rfl,⟨_,_,rfl,rfl,⟨_,_,rfl,rfl,rfl⟩⟩⟩⟩,⟨_,_,rfl,⟨p5,k5,rfl,s5⟩,⟨p6,k6,rfl,s6⟩⟩⟩⟩:=h
 exact ⟨p0,k0,p1,k1,p2,k2,p3,k3,p4,k4,p5,k5,p6,k6,rfl,s0,s1,s2,s3,s4,s5,s6⟩
theorem qw7 {w0:World} {L:List Ch} (x:qa0) {I0 I1 I2 I3:List Nat} {c0 c1 c2 c3:List Value} (h:SH w0 w L) (h0:PO w L I0 x.Af c0) (h1:PO w L I1 x.Ai c1) (h2:PO w L I2 x.Bi c2) (h3:PO w L I3 x.Ay c3) (b0:apartB I0 (I1++(I2++I3))=true) (b1:apartB I1 (I2++I3)=true) (b2:apartB I2 I3=true):PO w L (I0++(I1++(I2++I3))) x (c0++(c1++(c2++c3))) :=
 (qbR h h0 (qbR h h1 (qbR h h2 h3 b2) b1) b0)
structure qq where
 Bk:Int
 To:Int
 Bf:Int
 Bz:Int
instance gt_TLink:GoT qq:=isoT (pairT instInt (pairT instInt (pairT instInt instInt))) (fun x=>(x.Bk,x.To,x.Bf,x.Bz)) ⟨0,0,0,0⟩ rfl true (fun h=>by cases h)
instance fl_TLink:Flat qq:=qhc (pairT instInt (pairT instInt (pairT instInt instInt))) (fun x:qq=>(x.Bk,x.To,x.Bf,x.Bz)) ⟨0,0,0,0⟩ rfl true (fun h=>by cases h) (qbd _ _ (inferInstanceAs (Flat Int)) (qbd _ _ (inferInstanceAs (Flat Int)) (qbd _ _ (inferInstanceAs (Flat Int)) (inferInstanceAs (Flat Int)))))
abbrev qjy (x:qq):List Value:=[.int .i64 x.Bk,.int .i64 x.To,.int .i64 x.Bf,.int .i64 x.Bz]
theorem qas {x:qq} {cs:List Value} (h:GoT.R w S x cs):cs=(qjy x):=by
 obtain ⟨_,_,rfl,rfl,⟨_,_,rfl,rfl,⟨_,_,rfl,rfl,rfl⟩⟩⟩:=h
 exact rfl
theorem qbP (x:qq):GoT.R w S x (qjy x):=have h:=pR (rI x.Bk) (pR (rI x.To) (pR (rI x.Bf) (rI x.Bz)));h
structure qx where
 Bg:(List Bool)
 Ah:(List qe)
 Bc:(List qe)
instance gt_TTiming:GoT qx:=isoT (pairT (@instList Bool instBool) (pairT (@instList qe gt_TSpan) (@instList qe gt_TSpan))) (fun x=>(x.Bg,x.Ah,x.Bc)) ⟨[],[],[]⟩ rfl true (fun h=>by cases h)
abbrev qbF (x:qx) (p0 p1 p2:Option Addr) (k0 k1 k2:Nat):List Value:=[.slice p0 (x.Bg).length k0,.slice p1 (x.Ah).length k1,.slice p2 (x.Bc).length k2]
theorem qcG {x:qx} {cs:List Value} (h:GoT.R w S x cs):∃ p0 k0 p1 k1 p2 k2,cs=(qbF x p0 p1 p2 k0 k1 k2)∧SlR w S x.Bg p0 k0∧SlR w S x.Ah p1 k1∧SlR w S x.Bc p2 k2:=by
 obtain ⟨_,_,rfl,⟨p0,k0,rfl,s0⟩,⟨_,_,rfl,⟨p1,k1,rfl,s1⟩,⟨p2,k2,rfl,s2⟩⟩⟩:=h
 exact ⟨p0,k0,p1,k1,p2,k2,rfl,s0,s1,s2⟩
theorem qs9 (x:qx) {p0 p1 p2:Option Addr} {k0 k1 k2:Nat} (s0:SlR w S x.Bg p0 k0) (s1:SlR w S x.Ah p1 k1) (s2:SlR w S x.Bc p2 k2):GoT.R w S x (qbF x p0 p1 p2 k0 k1 k2):=have h:=pR (rS s0) (pR (rS s1) (rS s2));h
theorem qha {w0:World} {L:List Ch} {x:qx} {p0 p1 p2:Option Addr} {l0 k0 l1 k1 l2 k2:Nat} (h:SH w0 w (Ch.own S x [.slice p0 l0 k0,.slice p1 l1 k1,.slice p2 l2 k2]::L)):∃ S0 S1 S2,SH w0 w (Ch.own S2 x.Bc [.slice p2 l2 k2]::Ch.own S1 x.Ah [.slice p1 l1 k1]::Ch.own S0 x.Bg [.slice p0 l0 k0]::L):=by
 obtain ⟨hv,ho⟩:=h.headV
 replace ho:GoT.O w S x _:=ho
 obtain ⟨A0,B0,d0,e0,he,o0,ho,a0,b0⟩:=ho
 obtain ⟨q,m,rfl,s0⟩:=o0
 cases he
 replace hv:=hv.push (c:=Ch.own A0 x.Bg [_]) (S2:=B0) ⟨_,_,rfl,s0⟩ (fun _ hd=>hd.elim) a0 b0
 obtain ⟨A1,B1,d1,e1,he,o1,ho,a1,b1⟩:=ho
 obtain ⟨q,m,rfl,s1⟩:=o1
 cases he
 replace hv:=hv.push (c:=Ch.own A1 x.Ah [_]) (S2:=B1) ⟨_,_,rfl,s1⟩ (fun _ hd=>hd.elim) a1 b1
 obtain ⟨q,m,he,s2⟩:=ho
 cases he
 replace hv:=hv.push (c:=Ch.own B1 x.Bc [_]) (S2:=(fun _=>False)) ⟨_,_,rfl,s2⟩ (fun _ hd=>hd.elim) (fun b hb=>⟨hb,fun h=>h⟩) (fun _ h=>h.elim)
 exact ⟨A0,A1,B1,hv.sh⟩
theorem qfC {w0:World} {L:List Ch} (x:qx) {I0 I1 I2:List Nat} {c0 c1 c2:List Value} (h:SH w0 w L) (h0:PO w L I0 x.Bg c0) (h1:PO w L I1 x.Ah c1) (h2:PO w L I2 x.Bc c2) (b0:apartB I0 (I1++I2)=true) (b1:apartB I1 I2=true):PO w L (I0++(I1++I2)) x (c0++(c1++c2)) :=
 (qbR h h0 (qbR h h1 h2 b1) b0)
structure Tl20Work where
 j:qa0
 links:(List qq)
 live:(List Bool)
 t:qx
instance gt_Tl20Work:GoT Tl20Work:=isoT (pairT gt_TJob (pairT (@instList qq gt_TLink) (pairT (@instList Bool instBool) gt_TTiming))) (fun x=>(x.j,x.links,x.live,x.t)) ⟨(⟨(⟨(⟨[]⟩:qp),(⟨[],[],[]⟩:qd),[]⟩:qf),(⟨ByteArray.empty,0,0,0,0⟩:qr),[],[]⟩:qa0),[],[],(⟨[],[],[]⟩:qx)⟩ rfl true (fun h=>by cases h)
abbrev qtU (x:Tl20Work) (p0 p1 p2 p3 p4 p5 p6 p7 p8 p9 p10 p11:Option Addr) (k0 k1 k2 k3 k4 k5 k6 k7 k8 k9 k10 k11:Nat):List Value:=[.slice p0 (x.j.Af.Av.Aq).length k0,.slice p1 (x.j.Af.Ab.Aa).length k1,.slice p2 (x.j.Af.Ab.Am).length k2,.slice p3 (x.j.Af.Ab.Aj).length k3,.slice p4 (x.j.Af.Ac).length k4,.string x.j.Ai.Bb,.int .i64 x.j.Ai.As,.int .i64 x.j.Ai.Az,.int .i64 x.j.Ai.Ar,.int .i64 x.j.Ai.Ba,.slice p5 (x.j.Bi).length k5,.slice p6 (x.j.Ay).length k6,.slice p7 (x.links).length k7,.slice p8 (x.live).length k8,.slice p9 (x.t.Bg).length k9,.slice p10 (x.t.Ah).length k10,.slice p11 (x.t.Bc).length k11]
theorem qiV {x:Tl20Work} {cs:List Value} (h:GoT.R w S x cs):∃ p0 k0 p1 k1 p2 k2 p3 k3 p4 k4 p5 k5 p6 k6 p7 k7 p8 k8 p9 k9 p10 k10 p11 k11,cs=(qtU x p0 p1 p2 p3 p4 p5 p6 p7 p8 p9 p10 p11 k0 k1 k2 k3 k4 k5 k6 k7 k8 k9 k10 k11)∧SlR w S x.j.Af.Av.Aq p0 k0∧SlR w S x.j.Af.Ab.Aa p1 k1∧SlR w S x.j.Af.Ab.Am p2 k2∧SlR w S x.j.Af.Ab.Aj p3 k3∧SlR w S x.j.Af.Ac p4 k4∧SlR w S x.j.Bi p5 k5∧SlR w S x.j.Ay p6 k6∧SlR w S x.links p7 k7∧SlR w S x.live p8 k8∧SlR w S x.t.Bg p9 k9∧SlR w S x.t.Ah p10 k10∧SlR w S x.t.Bc p11 k11:=by
 obtain ⟨_,_,rfl,⟨_,_,rfl,⟨_,_,rfl,⟨p0,k0,rfl,s0⟩,⟨_,_,rfl,⟨_,_,rfl,⟨p1,k1,rfl,s1⟩,⟨_,_,rfl,⟨p2,k2,rfl,s2⟩,⟨p3,k3,rfl,s3⟩⟩⟩,⟨p4,k4,rfl,s4⟩⟩⟩,⟨_,_,rfl,⟨_,_,rfl,rfl,⟨_,_,rfl,rfl,⟨_,_,rfl,rfl,⟨_,_,rfl,rfl,rfl⟩⟩⟩⟩,⟨_,_,rfl,⟨p5,k5,rfl,s5⟩,⟨p6,k6,rfl,s6⟩⟩⟩⟩,⟨_,_,rfl,⟨p7,k7,rfl,s7⟩,⟨_,_,rfl,⟨p8,k8,rfl,s8⟩,⟨_,_,rfl,⟨p9,k9,rfl,s9⟩,⟨_,_,rfl,⟨p10,k10,rfl,s10⟩,⟨p11,k11,rfl,s11⟩⟩⟩⟩⟩⟩:=h
 exact ⟨p0,k0,p1,k1,p2,k2,p3,k3,p4,k4,p5,k5,p6,k6,p7,k7,p8,k8,p9,k9,p10,k10,p11,k11,rfl,s0,s1,s2,s3,s4,s5,s6,s7,s8,s9,s10,s11⟩
structure Tplace where
 instance_:Int
 pin:Int
 net:Int
 drives:Bool
instance gt_Tplace:GoT Tplace:=isoT (pairT instInt (pairT instInt (pairT instInt instBool))) (fun x=>(x.instance_,x.pin,x.net,x.drives)) ⟨0,0,0,false⟩ rfl true (fun h=>by cases h)
instance fl_Tplace:Flat Tplace:=qhc (pairT instInt (pairT instInt (pairT instInt instBool))) (fun x:Tplace=>(x.instance_,x.pin,x.net,x.drives)) ⟨0,0,0,false⟩ rfl true (fun h=>by cases h) (qbd _ _ (inferInstanceAs (Flat Int)) (qbd _ _ (inferInstanceAs (Flat Int)) (qbd _ _ (inferInstanceAs (Flat Int)) (inferInstanceAs (Flat Bool)))))
abbrev qqv (x:Tplace):List Value:=[.int .i64 x.instance_,.int .i64 x.pin,.int .i64 x.net,.bool x.drives]
theorem qgu {x:Tplace} {cs:List Value} (h:GoT.R w S x cs):cs=(qqv x):=by
 obtain ⟨_,_,rfl,rfl,⟨_,_,rfl,rfl,⟨_,_,rfl,rfl,rfl⟩⟩⟩:=h
 exact rfl
theorem qlL (x:Tplace):GoT.R w S x (qqv x):=have h:=pR (rI x.instance_) (pR (rI x.pin) (pR (rI x.net) (rB x.drives)));h
structure Tview where
 Af:qf
 places:(List Tplace)
 links:(List qq)
 loads:(List Int)
 delays:(List (List Int))
 extras:(List Int)
instance gt_Tview:GoT Tview:=isoT (pairT gt_TBlock (pairT (@instList Tplace gt_Tplace) (pairT (@instList qq gt_TLink) (pairT (@instList Int instInt) (pairT (@instList (List Int) (@instList Int instInt)) (@instList Int instInt)))))) (fun x=>(x.Af,x.places,x.links,x.loads,x.delays,x.extras)) ⟨(⟨(⟨[]⟩:qp),(⟨[],[],[]⟩:qd),[]⟩:qf),[],[],[],[],[]⟩ rfl true (fun h=>by cases h)
abbrev qxH (x:Tview) (p0 p1 p2 p3 p4 p5 p6 p7 p8 p9:Option Addr) (k0 k1 k2 k3 k4 k5 k6 k7 k8 k9:Nat):List Value:=[.slice p0 (x.Af.Av.Aq).length k0,.slice p1 (x.Af.Ab.Aa).length k1,.slice p2 (x.Af.Ab.Am).length k2,.slice p3 (x.Af.Ab.Aj).length k3,.slice p4 (x.Af.Ac).length k4,.slice p5 (x.places).length k5,.slice p6 (x.links).length k6,.slice p7 (x.loads).length k7,.slice p8 (x.delays).length k8,.slice p9 (x.extras).length k9]
theorem qbG {x:Tview} {cs:List Value} (h:GoT.R w S x cs):∃ p0 k0 p1 k1 p2 k2 p3 k3 p4 k4 p5 k5 p6 k6 p7 k7 p8 k8 p9 k9,cs=(qxH x p0 p1 p2 p3 p4 p5 p6 p7 p8 p9 k0 k1 k2 k3 k4 k5 k6 k7 k8 k9)∧SlR w S x.Af.Av.Aq p0 k0∧SlR w S x.Af.Ab.Aa p1 k1∧SlR w S x.Af.Ab.Am p2 k2∧SlR w S x.Af.Ab.Aj p3 k3∧SlR w S x.Af.Ac p4 k4∧SlR w S x.places p5 k5∧SlR w S x.links p6 k6∧SlR w S x.loads p7 k7∧SlR w S x.delays p8 k8∧SlR w S x.extras p9 k9:=by
 obtain ⟨_,_,rfl,⟨_,_,rfl,⟨p0,k0,rfl,s0⟩,⟨_,_,rfl,⟨_,_,rfl,⟨p1,k1,rfl,s1⟩,⟨_,_,rfl,⟨p2,k2,rfl,s2⟩,⟨p3,k3,rfl,s3⟩⟩⟩,⟨p4,k4,rfl,s4⟩⟩⟩,⟨_,_,rfl,⟨p5,k5,rfl,s5⟩,⟨_,_,rfl,⟨p6,k6,rfl,s6⟩,⟨_,_,rfl,⟨p7,k7,rfl,s7⟩,⟨_,_,rfl,⟨p8,k8,rfl,s8⟩,⟨p9,k9,rfl,s9⟩⟩⟩⟩⟩⟩:=h
 exact ⟨p0,k0,p1,k1,p2,k2,p3,k3,p4,k4,p5,k5,p6,k6,p7,k7,p8,k8,p9,k9,rfl,s0,s1,s2,s3,s4,s5,s6,s7,s8,s9⟩
structure Tgraph where
 view:(Option Tview)
 live:(List Bool)
instance gt_Tgraph:GoT Tgraph:=isoT (pairT (@instPtr Tview gt_Tview) (@instList Bool instBool)) (fun x=>(x.view,x.live)) ⟨none,[]⟩ rfl true (fun h=>by cases h)
abbrev qvV (x:Tgraph) (p0 p1:Option Addr) (k1:Nat):List Value:=[.pointer p0,.slice p1 (x.live).length k1]
theorem qdj {x:Tgraph} {cs:List Value} (h:GoT.R w S x cs):∃ p0 p1 k1,cs=(qvV x p0 p1 k1)∧PtR w S x.view p0∧SlR w S x.live p1 k1:=by
 obtain ⟨_,_,rfl,t0,⟨p1,k1,rfl,s1⟩⟩:=h
 obtain ⟨p0,rfl,s0⟩:=qal t0
 exact ⟨p0,p1,k1,rfl,s0,s1⟩
structure Twork where
 graph:(Option Tgraph)
 job:qa0
 timing:qx
 order:(List Int)
instance gt_Twork:GoT Twork:=isoT (pairT (@instPtr Tgraph gt_Tgraph) (pairT gt_TJob (pairT gt_TTiming (@instList Int instInt)))) (fun x=>(x.graph,x.job,x.timing,x.order)) ⟨none,(⟨(⟨(⟨[]⟩:qp),(⟨[],[],[]⟩:qd),[]⟩:qf),(⟨ByteArray.empty,0,0,0,0⟩:qr),[],[]⟩:qa0),(⟨[],[],[]⟩:qx),[]⟩ rfl true (fun h=>by cases h)
abbrev qxb (x:Twork) (p0 p1 p2 p3 p4 p5 p6 p7 p8 p9 p10 p11:Option Addr) (k1 k2 k3 k4 k5 k6 k7 k8 k9 k10 k11:Nat):List Value:=[.pointer p0,.slice p1 (x.job.Af.Av.Aq).length k1,.slice p2 (x.job.Af.Ab.Aa).length k2,.slice p3 (x.job.Af.Ab.Am).length k3,.slice p4 (x.job.Af.Ab.Aj).length k4,.slice p5 (x.job.Af.Ac).length k5,.string x.job.Ai.Bb,.int .i64 x.job.Ai.As,.int .i64 x.job.Ai.Az,.int .i64 x.job.Ai.Ar,.int .i64 x.job.Ai.Ba,.slice p6 (x.job.Bi).length k6,.slice p7 (x.job.Ay).length k7,.slice p8 (x.timing.Bg).length k8,.slice p9 (x.timing.Ah).length k9,.slice p10 (x.timing.Bc).length k10,.slice p11 (x.order).length k11]
theorem qlG {x:Twork} {cs:List Value} (h:GoT.R w S x cs):∃ p0 p1 k1 p2 k2 p3 k3 p4 k4 p5 k5 p6 k6 p7 k7 p8 k8 p9 k9 p10 k10 p11 k11,cs=(qxb x p0 p1 p2 p3 p4 p5 p6 p7 p8 p9 p10 p11 k1 k2 k3 k4 k5 k6 k7 k8 k9 k10 k11)∧PtR w S x.graph p0∧SlR w S x.job.Af.Av.Aq p1 k1∧SlR w S x.job.Af.Ab.Aa p2 k2∧SlR w S x.job.Af.Ab.Am p3 k3∧SlR w S x.job.Af.Ab.Aj p4 k4∧SlR w S x.job.Af.Ac p5 k5∧SlR w S x.job.Bi p6 k6∧SlR w S x.job.Ay p7 k7∧SlR w S x.timing.Bg p8 k8∧SlR w S x.timing.Ah p9 k9∧SlR w S x.timing.Bc p10 k10∧SlR w S x.order p11 k11:=by
 obtain ⟨_,_,rfl,t0,⟨_,_,rfl,⟨_,_,rfl,⟨_,_,rfl,⟨p1,k1,rfl,s1⟩,⟨_,_,rfl,⟨_,_,rfl,⟨p2,k2,rfl,s2⟩,⟨_,_,rfl,⟨p3,k3,rfl,s3⟩,⟨p4,k4,rfl,s4⟩⟩⟩,⟨p5,k5,rfl,s5⟩⟩⟩,⟨_,_,rfl,⟨_,_,rfl,rfl,⟨_,_,rfl,rfl,⟨_,_,rfl,rfl,⟨_,_,rfl,rfl,rfl⟩⟩⟩⟩,⟨_,_,rfl,⟨p6,k6,rfl,s6⟩,⟨p7,k7,rfl,s7⟩⟩⟩⟩,⟨_,_,rfl,⟨_,_,rfl,⟨p8,k8,rfl,s8⟩,⟨_,_,rfl,⟨p9,k9,rfl,s9⟩,⟨p10,k10,rfl,s10⟩⟩⟩,⟨p11,k11,rfl,s11⟩⟩⟩⟩:=h
 obtain ⟨p0,rfl,s0⟩:=qal t0
 exact ⟨p0,p1,k1,p2,k2,p3,k3,p4,k4,p5,k5,p6,k6,p7,k7,p8,k8,p9,k9,p10,k10,p11,k11,rfl,s0,s1,s2,s3,s4,s5,s6,s7,s8,s9,s10,s11⟩
structure Tl05Place where
 instance_:Int
 pin:Int
 net:Int
 drives:Bool
instance gt_Tl05Place:GoT Tl05Place:=isoT (pairT instInt (pairT instInt (pairT instInt instBool))) (fun x=>(x.instance_,x.pin,x.net,x.drives)) ⟨0,0,0,false⟩ rfl true (fun h=>by cases h)
instance fl_Tl05Place:Flat Tl05Place:=qhc (pairT instInt (pairT instInt (pairT instInt instBool))) (fun x:Tl05Place=>(x.instance_,x.pin,x.net,x.drives)) ⟨0,0,0,false⟩ rfl true (fun h=>by cases h) (qbd _ _ (inferInstanceAs (Flat Int)) (qbd _ _ (inferInstanceAs (Flat Int)) (qbd _ _ (inferInstanceAs (Flat Int)) (inferInstanceAs (Flat Bool)))))
abbrev qk3 (x:Tl05Place):List Value:=[.int .i64 x.instance_,.int .i64 x.pin,.int .i64 x.net,.bool x.drives]
theorem qbK {x:Tl05Place} {cs:List Value} (h:GoT.R w S x cs):cs=(qk3 x):=by
 obtain ⟨_,_,rfl,rfl,⟨_,_,rfl,rfl,⟨_,_,rfl,rfl,rfl⟩⟩⟩:=h
 exact rfl
theorem qeY (x:Tl05Place):GoT.R w S x (qk3 x):=have h:=pR (rI x.instance_) (pR (rI x.pin) (pR (rI x.net) (rB x.drives)));h
structure Tweight where
 index:Int
 part:Int
instance gt_Tweight:GoT Tweight:=isoT (pairT instInt instInt) (fun x=>(x.index,x.part)) ⟨0,0⟩ rfl true (fun h=>by cases h)
instance fl_Tweight:Flat Tweight:=qhc (pairT instInt instInt) (fun x:Tweight=>(x.index,x.part)) ⟨0,0⟩ rfl true (fun h=>by cases h) (qbd _ _ (inferInstanceAs (Flat Int)) (inferInstanceAs (Flat Int)))
abbrev qoy (x:Tweight):List Value:=[.int .i64 x.index,.int .i64 x.part]
theorem qnO {x:Tweight} {cs:List Value} (h:GoT.R w S x cs):cs=(qoy x):=by
 obtain ⟨_,_,rfl,rfl,rfl⟩:=h
 exact rfl
theorem qmM (x:Tweight):GoT.R w S x (qoy x):=have h:=pR (rI x.index) (rI x.part);h
structure qH where
 e0:Int
 e1:Int
instance gt_TA2_Int:GoT qH:=isoT (pairT instInt instInt) (fun x=>(x.e0,x.e1)) ⟨0,0⟩ rfl true (fun h=>by cases h)
instance fl_TA2_Int:Flat qH:=qhc (pairT instInt instInt) (fun x:qH=>(x.e0,x.e1)) ⟨0,0⟩ rfl true (fun h=>by cases h) (qbd _ _ (inferInstanceAs (Flat Int)) (inferInstanceAs (Flat Int)))
abbrev qrG (x:qH):List Value:=[.int .i64 x.e0,.int .i64 x.e1]
theorem qsk {x:qH} {cs:List Value} (h:GoT.R w S x cs):cs=(qrG x):=by
 obtain ⟨_,_,rfl,rfl,rfl⟩:=h
 exact rfl
theorem qcN (x:qH):GoT.R w S x (qrG x):=have h:=pR (rI x.e0) (rI x.e1);h
def tab:Tab:=[
 (2,⟨.int .i64,1,8,some (.int .i64 0),[]⟩),
 (3,⟨.int .i64,1,8,some (.int .i64 0),[]⟩),
 (4,⟨.bool,1,1,some (.bool false),[]⟩),
 (5,⟨.int .u8,1,1,some (.int .u8 0),[]⟩),
 (9,⟨.str,1,16,some (.string ByteArray.empty),[]⟩),
 (22,⟨.slice 223,1,24,some (.slice none 0 0),[]⟩),
 (24,⟨.struct,1,24,some (.agg #[.slice none 0 0]),[(0,1,some false)]⟩),
 (25,⟨.slice 225,1,24,some (.slice none 0 0),[]⟩),
 (26,⟨.slice 9,1,24,some (.slice none 0 0),[]⟩),
 (27,⟨.slice 228,1,24,some (.slice none 0 0),[]⟩),
 (29,⟨.struct,3,72,some (.agg #[.slice none 0 0,.slice none 0 0,.slice none 0 0]),[(0,1,some false),(1,1,some false),(2,1,some false)]⟩),
 (30,⟨.slice 161,1,24,some (.slice none 0 0),[]⟩),
 (32,⟨.struct,5,120,some (.agg #[.slice none 0 0,.slice none 0 0,.slice none 0 0,.slice none 0 0,.slice none 0 0]),[(0,1,some true),(1,3,some true),(4,1,some false)]⟩),
 (34,⟨.struct,5,48,some (.agg #[.string ByteArray.empty,.int .i64 0,.int .i64 0,.int .i64 0,.int .i64 0]),[(0,1,some false),(1,1,some false),(2,1,some false),(3,1,some false),(4,1,some false)]⟩),
 (35,⟨.slice 2,1,24,some (.slice none 0 0),[]⟩),
 (36,⟨.slice 130,1,24,some (.slice none 0 0),[]⟩),
 (38,⟨.struct,12,216,some (.agg #[.slice none 0 0,.slice none 0 0,.slice none 0 0,.slice none 0 0,.slice none 0 0,.string ByteArray.empty,.int .i64 0,.int .i64 0,.int .i64 0,.int .i64 0,.slice none 0 0,.slice none 0 0]),[(0,5,some true),(5,5,some true),(10,1,some false),(11,1,some false)]⟩),
 (42,⟨.slice 168,1,24,some (.slice none 0 0),[]⟩),
 (44,⟨.struct,1,24,some (.agg #[.slice none 0 0]),[(0,1,some false)]⟩),
 (45,⟨.slice 170,1,24,some (.slice none 0 0),[]⟩),
 (46,⟨.slice 245,1,24,some (.slice none 0 0),[]⟩),
 (48,⟨.struct,3,72,some (.agg #[.slice none 0 0,.slice none 0 0,.slice none 0 0]),[(0,1,some false),(1,1,some false),(2,1,some false)]⟩),
 (49,⟨.slice 186,1,24,some (.slice none 0 0),[]⟩),
 (51,⟨.struct,5,120,some (.agg #[.slice none 0 0,.slice none 0 0,.slice none 0 0,.slice none 0 0,.slice none 0 0]),[(0,1,some true),(1,3,some true),(4,1,some false)]⟩),
 (52,⟨.struct,5,48,some (.agg #[.string ByteArray.empty,.int .i64 0,.int .i64 0,.int .i64 0,.int .i64 0]),[(0,1,some false),(1,1,some false),(2,1,some false),(3,1,some false),(4,1,some false)]⟩),
 (53,⟨.slice 116,1,24,some (.slice none 0 0),[]⟩),
 (55,⟨.struct,12,216,some (.agg #[.slice none 0 0,.slice none 0 0,.slice none 0 0,.slice none 0 0,.slice none 0 0,.string ByteArray.empty,.int .i64 0,.int .i64 0,.int .i64 0,.int .i64 0,.slice none 0 0,.slice none 0 0]),[(0,5,some true),(5,5,some true),(10,1,some false),(11,1,some false)]⟩),
 (82,⟨.ptr,1,8,some (.pointer none),[]⟩),
 (86,⟨.struct,2,16,some (.agg #[.int .i64 0,.int .i64 0]),[(0,1,some false),(1,1,some false)]⟩),
 (104,⟨.slice 4,1,24,some (.slice none 0 0),[]⟩),
 (105,⟨.slice 86,1,24,some (.slice none 0 0),[]⟩),
 (107,⟨.struct,3,72,some (.agg #[.slice none 0 0,.slice none 0 0,.slice none 0 0]),[(0,1,some false),(1,1,some false),(2,1,some false)]⟩),
 (110,⟨.slice 121,1,24,some (.slice none 0 0),[]⟩),
 (114,⟨.struct,17,336,some (.agg #[.slice none 0 0,.slice none 0 0,.slice none 0 0,.slice none 0 0,.slice none 0 0,.string ByteArray.empty,.int .i64 0,.int .i64 0,.int .i64 0,.int .i64 0,.slice none 0 0,.slice none 0 0,.slice none 0 0,.slice none 0 0,.slice none 0 0,.slice none 0 0,.slice none 0 0]),[(0,12,some true),(12,1,some false),(13,1,some false),(14,3,some true)]⟩),
 (116,⟨.struct,5,40,some (.agg #[.int .i64 0,.int .i64 0,.int .i64 0,.int .i64 0,.int .i64 0]),[(0,1,some false),(1,2,some true),(3,2,some true)]⟩),
 (121,⟨.struct,4,32,some (.agg #[.int .i64 0,.int .i64 0,.int .i64 0,.int .i64 0]),[(0,1,some false),(1,1,some false),(2,1,some false),(3,1,some false)]⟩),
 (128,⟨.struct,2,16,some (.agg #[.int .i64 0,.int .i64 0]),[(0,1,some false),(1,1,some false)]⟩),
 (130,⟨.struct,5,40,some (.agg #[.int .i64 0,.int .i64 0,.int .i64 0,.int .i64 0,.int .i64 0]),[(0,1,some false),(1,2,some true),(3,2,some true)]⟩),
 (141,⟨.ptr,1,8,some (.pointer none),[]⟩),
 (143,⟨.struct,17,320,some (.agg #[.pointer none,.slice none 0 0,.slice none 0 0,.slice none 0 0,.slice none 0 0,.slice none 0 0,.string ByteArray.empty,.int .i64 0,.int .i64 0,.int .i64 0,.int .i64 0,.slice none 0 0,.slice none 0 0,.slice none 0 0,.slice none 0 0,.slice none 0 0,.slice none 0 0]),[(0,1,some false),(1,12,some true),(13,3,some true),(16,1,some false)]⟩),
 (145,⟨.ptr,1,8,some (.pointer none),[]⟩),
 (147,⟨.struct,2,32,some (.agg #[.pointer none,.slice none 0 0]),[(0,1,some false),(1,1,some false)]⟩),
 (148,⟨.slice 252,1,24,some (.slice none 0 0),[]⟩),
 (149,⟨.slice 35,1,24,some (.slice none 0 0),[]⟩),
 (151,⟨.struct,10,240,some (.agg #[.slice none 0 0,.slice none 0 0,.slice none 0 0,.slice none 0 0,.slice none 0 0,.slice none 0 0,.slice none 0 0,.slice none 0 0,.slice none 0 0,.slice none 0 0]),[(0,5,some true),(5,1,some false),(6,1,some false),(7,1,some false),(8,1,some false),(9,1,some false)]⟩),
 (161,⟨.struct,4,96,some (.agg #[.slice none 0 0,.slice none 0 0,.slice none 0 0,.slice none 0 0]),[(0,1,some false),(1,1,some false),(2,1,some false),(3,1,some false)]⟩),
 (165,⟨.slice 294,1,24,some (.slice none 0 0),[]⟩),
 (166,⟨.slice 173,1,24,some (.slice none 0 0),[]⟩),
 (168,⟨.struct,7,112,some (.agg #[.string ByteArray.empty,.int .i64 0,.slice none 0 0,.slice none 0 0,.slice none 0 0,.int .i64 0,.int .i64 0]),[(0,1,some false),(1,1,some false),(2,1,some false),(3,1,some false),(4,1,some false),(5,1,some false),(6,1,some false)]⟩),
 (170,⟨.struct,3,48,some (.agg #[.string ByteArray.empty,.int .i64 0,.slice none 0 0]),[(0,1,some false),(1,1,some false),(2,1,some false)]⟩),
 (171,⟨.slice 206,1,24,some (.slice none 0 0),[]⟩),
 (173,⟨.struct,6,80,some (.agg #[.int .i64 0,.int .i64 0,.int .i64 0,.int .i64 0,.slice none 0 0,.slice none 0 0]),[(0,1,some false),(1,1,some false),(2,1,some false),(3,1,some false),(4,1,some false),(5,1,some false)]⟩),
 (186,⟨.struct,4,96,some (.agg #[.slice none 0 0,.slice none 0 0,.slice none 0 0,.slice none 0 0]),[(0,1,some false),(1,1,some false),(2,1,some false),(3,1,some false)]⟩),
 (206,⟨.struct,3,72,some (.agg #[.slice none 0 0,.slice none 0 0,.slice none 0 0]),[(0,1,some false),(1,1,some false),(2,1,some false)]⟩),
 (220,⟨.slice 297,1,24,some (.slice none 0 0),[]⟩),
 (221,⟨.slice 301,1,24,some (.slice none 0 0),[]⟩),
 (223,⟨.struct,7,112,some (.agg #[.string ByteArray.empty,.int .i64 0,.slice none 0 0,.slice none 0 0,.slice none 0 0,.int .i64 0,.int .i64 0]),[(0,1,some false),(1,1,some false),(2,1,some false),(3,1,some false),(4,1,some false),(5,1,some false),(6,1,some false)]⟩),
 (225,⟨.struct,3,48,some (.agg #[.string ByteArray.empty,.int .i64 0,.slice none 0 0]),[(0,1,some false),(1,1,some false),(2,1,some false)]⟩),
 (228,⟨.struct,3,32,some (.agg #[.string ByteArray.empty,.int .i64 0,.int .i64 0]),[(0,1,some false),(1,1,some false),(2,1,some false)]⟩),
 (239,⟨.slice 242,1,24,some (.slice none 0 0),[]⟩),
 (242,⟨.struct,4,32,some (.agg #[.int .i64 0,.int .i64 0,.int .i64 0,.bool false]),[(0,1,some false),(1,1,some false),(2,1,some false),(3,1,some false)]⟩),
 (245,⟨.struct,3,32,some (.agg #[.string ByteArray.empty,.int .i64 0,.int .i64 0]),[(0,1,some false),(1,1,some false),(2,1,some false)]⟩),
 (252,⟨.struct,4,32,some (.agg #[.int .i64 0,.int .i64 0,.int .i64 0,.bool false]),[(0,1,some false),(1,1,some false),(2,1,some false),(3,1,some false)]⟩),
 (260,⟨.slice 264,1,24,some (.slice none 0 0),[]⟩),
 (264,⟨.struct,2,16,some (.agg #[.int .i64 0,.int .i64 0]),[(0,1,some false),(1,1,some false)]⟩),
 (278,⟨.ptr,1,8,some (.pointer none),[]⟩),
 (292,⟨.slice 5,1,24,some (.slice none 0 0),[]⟩),
 (294,⟨.struct,4,40,some (.agg #[.string ByteArray.empty,.int .i64 0,.int .i64 0,.bool false]),[(0,1,some false),(1,1,some false),(2,1,some false),(3,1,some false)]⟩),
 (297,⟨.struct,4,40,some (.agg #[.string ByteArray.empty,.int .i64 0,.int .i64 0,.bool false]),[(0,1,some false),(1,1,some false),(2,1,some false),(3,1,some false)]⟩),
 (299,⟨.slice 338,1,24,some (.slice none 0 0),[]⟩),
 (301,⟨.struct,6,80,some (.agg #[.int .i64 0,.int .i64 0,.int .i64 0,.int .i64 0,.slice none 0 0,.slice none 0 0]),[(0,1,some false),(1,1,some false),(2,1,some false),(3,1,some false),(4,1,some false),(5,1,some false)]⟩),
 (313,⟨.slice 3,1,24,some (.slice none 0 0),[]⟩),
 (321,⟨.int .u64,1,8,some (.int .u64 0),[]⟩),
 (331,⟨.slice 333,1,24,some (.slice none 0 0),[]⟩),
 (333,⟨.arr 2 2,2,16,some (.agg #[.int .i64 0,.int .i64 0]),[]⟩),
 (338,⟨.struct,3,72,some (.agg #[.slice none 0 0,.slice none 0 0,.slice none 0 0]),[(0,1,some false),(1,1,some false),(2,1,some false)]⟩)]
theorem qa:TabOk Tryz.prog tab:=TabOk.mk (by kernel_rfl)
theorem rp {n:Nat} {Q:Exit→Act→World→Prop} {k:List It} {e:Env} {w:World} {all:Array Oper} {l:List Oper} {op:Op} {d t:Nat} {ps:String} {af:Array Edge} {v:Value}
  (h:pev tab e op=some v) (hn:Nat.blt d n=true) (hk:Run Tryz.prog n Q (.ops all l::k) ((d,v)::e) w):Run Tryz.prog n Q (.ops all (⟨some d,op,t,ps,af,none⟩::l)::k) e w:=r_p qa h hn hk
theorem dp {n:Nat} {Q:Exit→Act→World→Prop} {k:List It} {e:Env} {w:World} {all:Array Oper} {l:List Oper} {op:Op} {d t:Nat} {ps:String} {af:Array Edge} {v:Value}
  (h:pev tab e op=some v) (hn:Nat.blt d n=true) (hk:RunD Tryz.prog n Q k all w l ((d,v)::e)):RunD Tryz.prog n Q k all w (⟨some d,op,t,ps,af,none⟩::l) e:=d_p qa h hn hk
section
variable {P:Program} {n:Nat} {Q:Exit→Act→World→Prop} {k:List It} {e:Env} {w:World}
theorem zSR {i4:Nat} {o5:List Oper} {x3:Code} (h:Run P n Q (.ops o5.toArray o5::.code x3::k) e w):Run P n Q (.code (.seq (.region i4 o5.toArray false) x3)::k) e w:=qcv <| qlh h
theorem zKSR {i5:Nat} {o6:List Oper} {x4:Code} (h:Run P n Q (.ops o6.toArray o6::.code x4::k) e w):Run P n Q (.code .skip::.code (.seq (.region i5 o6.toArray false) x4)::k) e w:=qhA <| qcv <| qlh h
theorem zNSR {a1:Array Oper} {i5:Nat} {o6:List Oper} {x4:Code} (h:Run P n Q (.ops o6.toArray o6::.code x4::k) e w):Run P n Q (.ops a1 []::.code (.seq (.region i5 o6.toArray false) x4)::k) e w:=qcw <| qcv <| qlh h
theorem zKS {x3:Code} {x4:Code} (h:Run P n Q (.code x3::.code x4::k) e w):Run P n Q (.code .skip::.code (.seq x3 x4)::k) e w:=qhA <| qcv h
theorem zNS {a1:Array Oper} {x3:Code} {x4:Code} (h:Run P n Q (.code x3::.code x4::k) e w):Run P n Q (.ops a1 []::.code (.seq x3 x4)::k) e w:=qcw <| qcv h
theorem zNSS {a1:Array Oper} {x5:Code} {x6:Code} {x4:Code} (h:Run P n Q (.code x5::.code x6::.code x4::k) e w):Run P n Q (.ops a1 []::.code (.seq (.seq x5 x6) x4)::k) e w:=qcw <| qcv <| qcv h
theorem zKSB {i5:Nat} {x6:Code} {x4:Code} (h:Run P n Q (.code x6::.blk i5::.code x4::k) e w):Run P n Q (.code .skip::.code (.seq (.block i5 x6) x4)::k) e w:=qhA <| qcv <| ql h
theorem zKSBSR {i5:Nat} {i9:Nat} {o10:List Oper} {x8:Code} {x4:Code} (h:Run P n Q (.ops o10.toArray o10::.code x8::.blk i5::.code x4::k) e w):Run P n Q (.code .skip::.code (.seq (.block i5 (.seq (.region i9 o10.toArray false) x8)) x4)::k) e w:=qhA <| qcv <| ql <| qcv <| qlh h
theorem zSS {x4:Code} {x5:Code} {x3:Code} (h:Run P n Q (.code x4::.code x5::.code x3::k) e w):Run P n Q (.code (.seq (.seq x4 x5) x3)::k) e w:=qcv <| qcv h
theorem zKSS {x5:Code} {x6:Code} {x4:Code} (h:Run P n Q (.code x5::.code x6::.code x4::k) e w):Run P n Q (.code .skip::.code (.seq (.seq x5 x6) x4)::k) e w:=qhA <| qcv <| qcv h
end
section
variable {w0 w:World} {L:List Ch} {n:Nat} {Q:Exit→Act→World→Prop} {k k':List It} {e e':Env} {all:Array Oper} {l l':List Oper} {z:List Nat}
theorem X0 (m:Nat) (hh:xs tab n m [] k e [] []=some (k',e',z,z)) (hk:Run Tryz.prog n Q k' e' w):Run Tryz.prog n Q k e w:=((qtn (P:=Tryz.prog) (Q:=Q) (w:=w) qa m _ _ _ _ _ _ _ _ _ (fun _ h=>by cases h) rfl hh).2 rfl).2 hk
theorem Y0 (m:Nat) (hh:xd tab n all m [] l e [] []=some (l',e',z,z)) (hk:RunD Tryz.prog n Q k all w l' e'):RunD Tryz.prog n Q k all w l e:=((qxR (P:=Tryz.prog) (Q:=Q) (k:=k) (w:=w) (all:=all) qa m _ _ _ _ _ _ _ _ _ (fun _ h=>by cases h) rfl hh).2 rfl).2 hk
theorem X1 (m:Nat) (i0:Nat) {b0 t0:Nat} {cs0:List Value} (h:SH w0 w L) (hh:(L[i0]?,xs tab n m [(b0,cs0)] k e [] [])=(some (Ch.box b0 cs0 t0),some (k',e',z,z))) (hk:Run Tryz.prog n Q k' e' w):Run Tryz.prog n Q k e w:=by
 simp only [Prod.mk.injEq] at hh
 exact ((qtn (P:=Tryz.prog) (Q:=Q) (w:=w) qa m _ _ _ _ _ _ _ _ _ (fun p hp=>by
  simp only [jR,jH,or_false] at hp
  rcases hp with rfl
  ·exact h.box i0 hh.1) rfl hh.2).2 rfl).2 hk
theorem Y1 (m:Nat) (i0:Nat) {b0 t0:Nat} {cs0:List Value} (h:SH w0 w L) (hh:(L[i0]?,xd tab n all m [(b0,cs0)] l e [] [])=(some (Ch.box b0 cs0 t0),some (l',e',z,z))) (hk:RunD Tryz.prog n Q k all w l' e'):RunD Tryz.prog n Q k all w l e:=by
 simp only [Prod.mk.injEq] at hh
 exact ((qxR (P:=Tryz.prog) (Q:=Q) (k:=k) (w:=w) (all:=all) qa m _ _ _ _ _ _ _ _ _ (fun p hp=>by
  simp only [jR,jH,or_false] at hp
  rcases hp with rfl
  ·exact h.box i0 hh.1) rfl hh.2).2 rfl).2 hk
theorem X2 (m:Nat) (i0 i1:Nat) {b0 t0:Nat} {cs0:List Value} {b1 t1:Nat} {cs1:List Value} (h:SH w0 w L) (hh:(L[i0]?,L[i1]?,xs tab n m [(b0,cs0),(b1,cs1)] k e [] [])=(some (Ch.box b0 cs0 t0),some (Ch.box b1 cs1 t1),some (k',e',z,z))) (hk:Run Tryz.prog n Q k' e' w):Run Tryz.prog n Q k e w:=by
 simp only [Prod.mk.injEq] at hh
 exact ((qtn (P:=Tryz.prog) (Q:=Q) (w:=w) qa m _ _ _ _ _ _ _ _ _ (fun p hp=>by
  simp only [jR,jH,or_false] at hp
  rcases hp with rfl|rfl
  ·exact h.box i0 hh.1
  ·exact h.box i1 hh.2.1) rfl hh.2.2).2 rfl).2 hk
theorem X3 (m:Nat) (i0 i1 i2:Nat) {b0 t0:Nat} {cs0:List Value} {b1 t1:Nat} {cs1:List Value} {b2 t2:Nat} {cs2:List Value} (h:SH w0 w L) (hh:(L[i0]?,L[i1]?,L[i2]?,xs tab n m [(b0,cs0),(b1,cs1),(b2,cs2)] k e [] [])=(some (Ch.box b0 cs0 t0),some (Ch.box b1 cs1 t1),some (Ch.box b2 cs2 t2),some (k',e',z,z))) (hk:Run Tryz.prog n Q k' e' w):Run Tryz.prog n Q k e w:=by
 simp only [Prod.mk.injEq] at hh
 exact ((qtn (P:=Tryz.prog) (Q:=Q) (w:=w) qa m _ _ _ _ _ _ _ _ _ (fun p hp=>by
  simp only [jR,jH,or_false] at hp
  rcases hp with rfl|rfl|rfl
  ·exact h.box i0 hh.1
  ·exact h.box i1 hh.2.1
  ·exact h.box i2 hh.2.2.1) rfl hh.2.2.2).2 rfl).2 hk
theorem X4 (m:Nat) (i0 i1 i2 i3:Nat) {b0 t0:Nat} {cs0:List Value} {b1 t1:Nat} {cs1:List Value} {b2 t2:Nat} {cs2:List Value} {b3 t3:Nat} {cs3:List Value} (h:SH w0 w L) (hh:(L[i0]?,L[i1]?,L[i2]?,L[i3]?,xs tab n m [(b0,cs0),(b1,cs1),(b2,cs2),(b3,cs3)] k e [] [])=(some (Ch.box b0 cs0 t0),some (Ch.box b1 cs1 t1),some (Ch.box b2 cs2 t2),some (Ch.box b3 cs3 t3),some (k',e',z,z))) (hk:Run Tryz.prog n Q k' e' w):Run Tryz.prog n Q k e w:=by
 simp only [Prod.mk.injEq] at hh
 exact ((qtn (P:=Tryz.prog) (Q:=Q) (w:=w) qa m _ _ _ _ _ _ _ _ _ (fun p hp=>by
  simp only [jR,jH,or_false] at hp
  rcases hp with rfl|rfl|rfl|rfl
  ·exact h.box i0 hh.1
  ·exact h.box i1 hh.2.1
  ·exact h.box i2 hh.2.2.1
  ·exact h.box i3 hh.2.2.2.1) rfl hh.2.2.2.2).2 rfl).2 hk
end
section
variable {w0 w:World} {L:List Ch} {n:Nat} {Q:Exit→Act→World→Prop} {k:List It} {e:Env} {all:Array Oper} {l:List Oper}
theorem zp1 {op0:Op} {d0 t0:Nat} {s0:String} {f0:Array Edge} {v0:Value} (h:(pev tab (e) op0,Nat.blt d0 n)=(some v0,true)) (hk:Run Tryz.prog n Q (.ops all l::k) ((d0,v0)::e) w):Run Tryz.prog n Q (.ops all (⟨some d0,op0,t0,s0,f0,none⟩::l)::k) e w:=by
 have H:=h
 simp only [Prod.mk.injEq] at H
 exact rp (H.1) (H.2) (hk)
theorem zd1 {op0:Op} {d0 t0:Nat} {s0:String} {f0:Array Edge} {v0:Value} (h:(pev tab (e) op0,Nat.blt d0 n)=(some v0,true)) (hk:RunD Tryz.prog n Q k all w l ((d0,v0)::e)):RunD Tryz.prog n Q k all w (⟨some d0,op0,t0,s0,f0,none⟩::l) e:=by
 have H:=h
 simp only [Prod.mk.injEq] at H
 exact dp (H.1) (H.2) (hk)
theorem zp2 {op0:Op} {d0 t0:Nat} {s0:String} {f0:Array Edge} {v0:Value} {op1:Op} {d1 t1:Nat} {s1:String} {f1:Array Edge} {v1:Value} (h:(pev tab (e) op0,Nat.blt d0 n,pev tab ((d0,v0)::e) op1,Nat.blt d1 n)=(some v0,true,some v1,true)) (hk:Run Tryz.prog n Q (.ops all l::k) ((d1,v1)::(d0,v0)::e) w):Run Tryz.prog n Q (.ops all (⟨some d0,op0,t0,s0,f0,none⟩::⟨some d1,op1,t1,s1,f1,none⟩::l)::k) e w:=by
 have H:=h
 simp only [Prod.mk.injEq] at H
 exact rp (H.1) (H.2.1) (rp (H.2.2.1) (H.2.2.2) (hk))
theorem zd2 {op0:Op} {d0 t0:Nat} {s0:String} {f0:Array Edge} {v0:Value} {op1:Op} {d1 t1:Nat} {s1:String} {f1:Array Edge} {v1:Value} (h:(pev tab (e) op0,Nat.blt d0 n,pev tab ((d0,v0)::e) op1,Nat.blt d1 n)=(some v0,true,some v1,true)) (hk:RunD Tryz.prog n Q k all w l ((d1,v1)::(d0,v0)::e)):RunD Tryz.prog n Q k all w (⟨some d0,op0,t0,s0,f0,none⟩::⟨some d1,op1,t1,s1,f1,none⟩::l) e:=by
 have H:=h
 simp only [Prod.mk.injEq] at H
 exact dp (H.1) (H.2.1) (dp (H.2.2.1) (H.2.2.2) (hk))
theorem zp3 {op0:Op} {d0 t0:Nat} {s0:String} {f0:Array Edge} {v0:Value} {op1:Op} {d1 t1:Nat} {s1:String} {f1:Array Edge} {v1:Value} {op2:Op} {d2 t2:Nat} {s2:String} {f2:Array Edge} {v2:Value} (h:(pev tab (e) op0,Nat.blt d0 n,pev tab ((d0,v0)::e) op1,Nat.blt d1 n,pev tab ((d1,v1)::(d0,v0)::e) op2,Nat.blt d2 n)=(some v0,true,some v1,true,some v2,true)) (hk:Run Tryz.prog n Q (.ops all l::k) ((d2,v2)::(d1,v1)::(d0,v0)::e) w):Run Tryz.prog n Q (.ops all (⟨some d0,op0,t0,s0,f0,none⟩::⟨some d1,op1,t1,s1,f1,none⟩::⟨some d2,op2,t2,s2,f2,none⟩::l)::k) e w:=by
 have H:=h
 simp only [Prod.mk.injEq] at H
 exact rp (H.1) (H.2.1) (rp (H.2.2.1) (H.2.2.2.1) (rp (H.2.2.2.2.1) (H.2.2.2.2.2) (hk)))
theorem zd3 {op0:Op} {d0 t0:Nat} {s0:String} {f0:Array Edge} {v0:Value} {op1:Op} {d1 t1:Nat} {s1:String} {f1:Array Edge} {v1:Value} {op2:Op} {d2 t2:Nat} {s2:String} {f2:Array Edge} {v2:Value} (h:(pev tab (e) op0,Nat.blt d0 n,pev tab ((d0,v0)::e) op1,Nat.blt d1 n,pev tab ((d1,v1)::(d0,v0)::e) op2,Nat.blt d2 n)=(some v0,true,some v1,true,some v2,true)) (hk:RunD Tryz.prog n Q k all w l ((d2,v2)::(d1,v1)::(d0,v0)::e)):RunD Tryz.prog n Q k all w (⟨some d0,op0,t0,s0,f0,none⟩::⟨some d1,op1,t1,s1,f1,none⟩::⟨some d2,op2,t2,s2,f2,none⟩::l) e:=by
 have H:=h
 simp only [Prod.mk.injEq] at H
 exact dp (H.1) (H.2.1) (dp (H.2.2.1) (H.2.2.2.1) (dp (H.2.2.2.2.1) (H.2.2.2.2.2) (hk)))
theorem zp4 {op0:Op} {d0 t0:Nat} {s0:String} {f0:Array Edge} {v0:Value} {op1:Op} {d1 t1:Nat} {s1:String} {f1:Array Edge} {v1:Value} {op2:Op} {d2 t2:Nat} {s2:String} {f2:Array Edge} {v2:Value} {op3:Op} {d3 t3:Nat} {s3:String} {f3:Array Edge} {v3:Value} (h:(pev tab (e) op0,Nat.blt d0 n,pev tab ((d0,v0)::e) op1,Nat.blt d1 n,pev tab ((d1,v1)::(d0,v0)::e) op2,Nat.blt d2 n,pev tab ((d2,v2)::(d1,v1)::(d0,v0)::e) op3,Nat.blt d3 n)=(some v0,true,some v1,true,some v2,true,some v3,true)) (hk:Run Tryz.prog n Q (.ops all l::k) ((d3,v3)::(d2,v2)::(d1,v1)::(d0,v0)::e) w):Run Tryz.prog n Q (.ops all (⟨some d0,op0,t0,s0,f0,none⟩::⟨some d1,op1,t1,s1,f1,none⟩::⟨some d2,op2,t2,s2,f2,none⟩::⟨some d3,op3,t3,s3,f3,none⟩::l)::k) e w:=by
 have H:=h
 simp only [Prod.mk.injEq] at H
 exact rp (H.1) (H.2.1) (rp (H.2.2.1) (H.2.2.2.1) (rp (H.2.2.2.2.1) (H.2.2.2.2.2.1) (rp (H.2.2.2.2.2.2.1) (H.2.2.2.2.2.2.2) (hk))))
theorem zd4 {op0:Op} {d0 t0:Nat} {s0:String} {f0:Array Edge} {v0:Value} {op1:Op} {d1 t1:Nat} {s1:String} {f1:Array Edge} {v1:Value} {op2:Op} {d2 t2:Nat} {s2:String} {f2:Array Edge} {v2:Value} {op3:Op} {d3 t3:Nat} {s3:String} {f3:Array Edge} {v3:Value} (h:(pev tab (e) op0,Nat.blt d0 n,pev tab ((d0,v0)::e) op1,Nat.blt d1 n,pev tab ((d1,v1)::(d0,v0)::e) op2,Nat.blt d2 n,pev tab ((d2,v2)::(d1,v1)::(d0,v0)::e) op3,Nat.blt d3 n)=(some v0,true,some v1,true,some v2,true,some v3,true)) (hk:RunD Tryz.prog n Q k all w l ((d3,v3)::(d2,v2)::(d1,v1)::(d0,v0)::e)):RunD Tryz.prog n Q k all w (⟨some d0,op0,t0,s0,f0,none⟩::⟨some d1,op1,t1,s1,f1,none⟩::⟨some d2,op2,t2,s2,f2,none⟩::⟨some d3,op3,t3,s3,f3,none⟩::l) e:=by
 have H:=h
 simp only [Prod.mk.injEq] at H
 exact dp (H.1) (H.2.1) (dp (H.2.2.1) (H.2.2.2.1) (dp (H.2.2.2.2.1) (H.2.2.2.2.2.1) (dp (H.2.2.2.2.2.2.1) (H.2.2.2.2.2.2.2) (hk))))
theorem zp5 {op0:Op} {d0 t0:Nat} {s0:String} {f0:Array Edge} {v0:Value} {op1:Op} {d1 t1:Nat} {s1:String} {f1:Array Edge} {v1:Value} {op2:Op} {d2 t2:Nat} {s2:String} {f2:Array Edge} {v2:Value} {op3:Op} {d3 t3:Nat} {s3:String} {f3:Array Edge} {v3:Value} {op4:Op} {d4 t4:Nat} {s4:String} {f4:Array Edge} {v4:Value} (h:(pev tab (e) op0,Nat.blt d0 n,pev tab ((d0,v0)::e) op1,Nat.blt d1 n,pev tab ((d1,v1)::(d0,v0)::e) op2,Nat.blt d2 n,pev tab ((d2,v2)::(d1,v1)::(d0,v0)::e) op3,Nat.blt d3 n,pev tab ((d3,v3)::(d2,v2)::(d1,v1)::(d0,v0)::e) op4,Nat.blt d4 n)=(some v0,true,some v1,true,some v2,true,some v3,true,some v4,true)) (hk:Run Tryz.prog n Q (.ops all l::k) ((d4,v4)::(d3,v3)::(d2,v2)::(d1,v1)::(d0,v0)::e) w):Run Tryz.prog n Q (.ops all (⟨some d0,op0,t0,s0,f0,none⟩::⟨some d1,op1,t1,s1,f1,none⟩::⟨some d2,op2,t2,s2,f2,none⟩::⟨some d3,op3,t3,s3,f3,none⟩::⟨some d4,op4,t4,s4,f4,none⟩::l)::k) e w:=by
 have H:=h
 simp only [Prod.mk.injEq] at H
 exact rp (H.1) (H.2.1) (rp (H.2.2.1) (H.2.2.2.1) (rp (H.2.2.2.2.1) (H.2.2.2.2.2.1) (rp (H.2.2.2.2.2.2.1) (H.2.2.2.2.2.2.2.1) (rp (H.2.2.2.2.2.2.2.2.1) (H.2.2.2.2.2.2.2.2.2) (hk)))))
theorem zd5 {op0:Op} {d0 t0:Nat} {s0:String} {f0:Array Edge} {v0:Value} {op1:Op} {d1 t1:Nat} {s1:String} {f1:Array Edge} {v1:Value} {op2:Op} {d2 t2:Nat} {s2:String} {f2:Array Edge} {v2:Value} {op3:Op} {d3 t3:Nat} {s3:String} {f3:Array Edge} {v3:Value} {op4:Op} {d4 t4:Nat} {s4:String} {f4:Array Edge} {v4:Value} (h:(pev tab (e) op0,Nat.blt d0 n,pev tab ((d0,v0)::e) op1,Nat.blt d1 n,pev tab ((d1,v1)::(d0,v0)::e) op2,Nat.blt d2 n,pev tab ((d2,v2)::(d1,v1)::(d0,v0)::e) op3,Nat.blt d3 n,pev tab ((d3,v3)::(d2,v2)::(d1,v1)::(d0,v0)::e) op4,Nat.blt d4 n)=(some v0,true,some v1,true,some v2,true,some v3,true,some v4,true)) (hk:RunD Tryz.prog n Q k all w l ((d4,v4)::(d3,v3)::(d2,v2)::(d1,v1)::(d0,v0)::e)):RunD Tryz.prog n Q k all w (⟨some d0,op0,t0,s0,f0,none⟩::⟨some d1,op1,t1,s1,f1,none⟩::⟨some d2,op2,t2,s2,f2,none⟩::⟨some d3,op3,t3,s3,f3,none⟩::⟨some d4,op4,t4,s4,f4,none⟩::l) e:=by
 have H:=h
 simp only [Prod.mk.injEq] at H
 exact dp (H.1) (H.2.1) (dp (H.2.2.1) (H.2.2.2.1) (dp (H.2.2.2.2.1) (H.2.2.2.2.2.1) (dp (H.2.2.2.2.2.2.1) (H.2.2.2.2.2.2.2.1) (dp (H.2.2.2.2.2.2.2.2.1) (H.2.2.2.2.2.2.2.2.2) (hk)))))
theorem zl (i j:Nat) {d t ty:Nat} {x:Operand} {te:TE} {ps:String} {af:Array Edge} {v:Value} {b:Nat} {cs:List Value} {t':TypeId} (h:SH w0 w L) (hh:(L[i]?,opv e x,tab.get t,ld te cs j,Nat.blt d n)=(some (Ch.box b cs t'),some (.pointer (some ⟨b,0+j,none⟩)),some te,some v,true))
  (hk:Run Tryz.prog n Q (.ops all l::k) ((d,v)::e) w):Run Tryz.prog n Q (.ops all (⟨some d,.load t x,ty,ps,af,none⟩::l)::k) e w:=by
 simp only [Prod.mk.injEq] at hh
 exact r_v (qjh qa (h.box i hh.1) (j:=j) hh.2.1 hh.2.2.1 hh.2.2.2.1) hh.2.2.2.2 hk
theorem zc (j:Nat) {d t ty:Nat} {x:Operand} {te:TE} {ps:String} {af:Array Edge} {v:Value} {b o:Nat} {cs:List Value} (h:CellsAt w b o cs) (hh:(opv e x,tab.get t,ld te cs j,Nat.blt d n)=(some (.pointer (some ⟨b,o+j,none⟩)),some te,some v,true))
  (hk:Run Tryz.prog n Q (.ops all l::k) ((d,v)::e) w):Run Tryz.prog n Q (.ops all (⟨some d,.load t x,ty,ps,af,none⟩::l)::k) e w:=by
 simp only [Prod.mk.injEq] at hh
 exact r_v (qjh qa h (j:=j) hh.1 hh.2.1 hh.2.2.1) hh.2.2.2 hk
theorem zdc (j:Nat) {d t ty:Nat} {x:Operand} {te:TE} {ps:String} {af:Array Edge} {v:Value} {b o:Nat} {cs:List Value} (h:CellsAt w b o cs) (hh:(opv e x,tab.get t,ld te cs j,Nat.blt d n)=(some (.pointer (some ⟨b,o+j,none⟩)),some te,some v,true))
  (hk:RunD Tryz.prog n Q k all w l ((d,v)::e)):RunD Tryz.prog n Q k all w (⟨some d,.load t x,ty,ps,af,none⟩::l) e:=by
 simp only [Prod.mk.injEq] at hh
 exact d_v (fun _ hb=>qjh qa (h.below hb) (j:=j) hh.1 hh.2.1 hh.2.2.1) hh.2.2.2 hk
theorem zx {x i:Operand} {t ty d el m:Nat} {te te1:TE} {ps:String} {af:Array Edge} {p:Option Addr} {ln c:Nat} {kd:IntKind} {iv:Int} {b o q:Nat} (hp:p=some ⟨b,o,none⟩) (hq:q=o+iv.toNat*m) (hlt:0≤iv∧iv<ln) (hh:(opv e x,opv e i,tab.get t,te.kind,tab.get el,te1.size,Nat.blt d n)=(some (.slice p ln c),some (.int kd iv),some te,TK.slice el,some te1,m,true)) (hk:Run Tryz.prog n Q (.ops all l::k) ((d,.pointer (some ⟨b,q,none⟩))::e) w):Run Tryz.prog n Q (.ops all (⟨some d,.indexAddr t x i,ty,ps,af,none⟩::l)::k) e w:=by
 simp only [Prod.mk.injEq] at hh
 exact r_v (qwJ qa hp hq hlt hh.1 hh.2.1 hh.2.2.1 hh.2.2.2.1 hh.2.2.2.2.1 hh.2.2.2.2.2.1) hh.2.2.2.2.2.2 hk
theorem zxe {x i:Operand} {t ty d el m:Nat} {te te1:TE} {ps:String} {af:Array Edge} {p:Option Addr} {ln c:Nat} {kd:IntKind} {iv:Int} {b o q:Nat} {α:Prop} (hp:p=some ⟨b,o,none⟩) (hq:q=o+iv.toNat*m) (hlt:0≤iv∧iv<ln∧α) (hh:(opv e x,opv e i,tab.get t,te.kind,tab.get el,te1.size,Nat.blt d n)=(some (.slice p ln c),some (.int kd iv),some te,TK.slice el,some te1,m,true)) (hk:Run Tryz.prog n Q (.ops all l::k) ((d,.pointer (some ⟨b,q,none⟩))::e) w):Run Tryz.prog n Q (.ops all (⟨some d,.indexAddr t x i,ty,ps,af,none⟩::l)::k) e w:=zx hp hq ⟨hlt.1,hlt.2.1⟩ hh hk
theorem zdx {x i:Operand} {t ty d el m:Nat} {te te1:TE} {ps:String} {af:Array Edge} {p:Option Addr} {ln c:Nat} {kd:IntKind} {iv:Int} {b o q:Nat} (hp:p=some ⟨b,o,none⟩) (hq:q=o+iv.toNat*m) (hlt:0≤iv∧iv<ln) (hh:(opv e x,opv e i,tab.get t,te.kind,tab.get el,te1.size,Nat.blt d n)=(some (.slice p ln c),some (.int kd iv),some te,TK.slice el,some te1,m,true)) (hk:RunD Tryz.prog n Q k all w l ((d,.pointer (some ⟨b,q,none⟩))::e)):RunD Tryz.prog n Q k all w (⟨some d,.indexAddr t x i,ty,ps,af,none⟩::l) e:=by
 simp only [Prod.mk.injEq] at hh
 exact d_v (fun _ _=>qwJ qa hp hq hlt hh.1 hh.2.1 hh.2.2.1 hh.2.2.2.1 hh.2.2.2.2.1 hh.2.2.2.2.2.1) hh.2.2.2.2.2.2 hk
theorem zdxe {x i:Operand} {t ty d el m:Nat} {te te1:TE} {ps:String} {af:Array Edge} {p:Option Addr} {ln c:Nat} {kd:IntKind} {iv:Int} {b o q:Nat} {α:Prop} (hp:p=some ⟨b,o,none⟩) (hq:q=o+iv.toNat*m) (hlt:0≤iv∧iv<ln∧α) (hh:(opv e x,opv e i,tab.get t,te.kind,tab.get el,te1.size,Nat.blt d n)=(some (.slice p ln c),some (.int kd iv),some te,TK.slice el,some te1,m,true)) (hk:RunD Tryz.prog n Q k all w l ((d,.pointer (some ⟨b,q,none⟩))::e)):RunD Tryz.prog n Q k all w (⟨some d,.indexAddr t x i,ty,ps,af,none⟩::l) e:=zdx hp hq ⟨hlt.1,hlt.2.1⟩ hh hk
theorem zs (i:Nat) {t ty:Nat} {ps:String} {af:Array Edge} {x v:Operand} {te:TE} {b j:Nat} {cs us cs':List Value} {t':TypeId} {u:Value} {L':List Ch} (h:SH w0 w L)
  (hh:(L[i]?,opv e x,opv e v,cellsL u,tab.get t,Nat.beq us.length te.size,Nat.ble (j+us.length) cs.length,ones us,splN cs j us,setN L i (Ch.box b cs' t'))=(some (Ch.box b cs t'),some (.pointer (some ⟨b,j,none⟩)),some u,us,some te,true,true,true,some cs',some L'))
  (hk:∀ w',SH w0 w' L'→Run Tryz.prog n Q (.ops all l::k) e w'):Run Tryz.prog n Q (.ops all (⟨none,.store t x v,ty,ps,af,none⟩::l)::k) e w:=by
 simp only [Prod.mk.injEq] at hh
 obtain ⟨h1,h2,h3,h4,h5,h6,h7,h8,h9,h10⟩:=hh
 subst h4
 have e1:=qr4 h9
 have e2:=qum h10
 subst e1 e2
 exact qxf qa i h h1 h2 h3 h5 h6 h7 h8 hk
end
section
variable {P:Program} {fnc:Func} {R:Ending→World→Prop} {n:Nat} {k:List It} {e:Env} {w0 w:World} {ops:Array Oper} {st:List Nat} {fuel:Nat}
theorem M0 (K:Nat) (is:List Nat) {C:World→Prop} {m K0 f f':Nat} {e':Env} {z:List Nat} (hC:C w) (hh:xa tab n ops is [] f e [] []=some (f',e',z,z))
  (hk:RunA Tryz.prog n (bodyPost Tryz.prog fnc R) k ops st C f' (bits m K) e' w) (ho:oka ops st is (bits m K0) (bits m K)=true:=by kernel_rfl):RunA Tryz.prog n (bodyPost Tryz.prog fnc R) k ops st C f (bits m K0) e w:=by
 exact ((qst (C:=C) (w:=w) (P:=Tryz.prog) qa hC is _ _ _ _ _ _ _ _ _ _ _ (fun _ h=>by cases h) rfl hh ho).2 rfl).2 hk
theorem G0 (K:Nat) (is:List Nat) {C:World→Prop} {m K0 f f':Nat} {e':Env} {z:List Nat} {all:Array Oper} (hC:C w) (hh:xa tab n ops is [] f e [] []=some (f',e',z,z))
  (hk:RunA Tryz.prog n (bodyPost Tryz.prog fnc R) k ops st C f' (bits m K) e' w) (ho:oka ops st is (bits m K0) (bits m K)=true:=by kernel_rfl):Run Tryz.prog n (bodyPost Tryz.prog fnc R) (.ops all []::.goal (NextA Tryz.prog n (bodyPost Tryz.prog fnc R) k ops st C f (bits m K0))::k) e w :=
 Ag hC (M0 K is (C:=C) hC hh hk ho)
theorem M1 (K:Nat) (is:List Nat) (i0:Nat) {b0 t0:Nat} {cs0:List Value} {LA:List Ch} {m K0 f f':Nat} {e':Env} {z:List Nat} (hC:SH w0 w LA) (hh:(LA[i0]?,xa tab n ops is [(b0,cs0)] f e [] [])=(some (Ch.box b0 cs0 t0),some (f',e',z,z)))
  (hk:RunA Tryz.prog n (bodyPost Tryz.prog fnc R) k ops st (fun w'=>SH w0 w' LA) f' (bits m K) e' w) (ho:oka ops st is (bits m K0) (bits m K)=true:=by kernel_rfl):RunA Tryz.prog n (bodyPost Tryz.prog fnc R) k ops st (fun w'=>SH w0 w' LA) f (bits m K0) e w:=by
 simp only [Prod.mk.injEq] at hh
 exact ((qst (C:=(fun w'=>SH w0 w' LA)) (w:=w) (P:=Tryz.prog) qa hC is _ _ _ _ _ _ _ _ _ _ _ (fun p hp w1 hw=>by
  simp only [jR,jH,or_false] at hp
  rcases hp with rfl
  ·exact SH.box hw i0 hh.1) rfl hh.2 ho).2 rfl).2 hk
theorem M2 (K:Nat) (is:List Nat) (i0 i1:Nat) {b0 t0:Nat} {cs0:List Value} {b1 t1:Nat} {cs1:List Value} {LA:List Ch} {m K0 f f':Nat} {e':Env} {z:List Nat} (hC:SH w0 w LA) (hh:(LA[i0]?,LA[i1]?,xa tab n ops is [(b0,cs0),(b1,cs1)] f e [] [])=(some (Ch.box b0 cs0 t0),some (Ch.box b1 cs1 t1),some (f',e',z,z)))
  (hk:RunA Tryz.prog n (bodyPost Tryz.prog fnc R) k ops st (fun w'=>SH w0 w' LA) f' (bits m K) e' w) (ho:oka ops st is (bits m K0) (bits m K)=true:=by kernel_rfl):RunA Tryz.prog n (bodyPost Tryz.prog fnc R) k ops st (fun w'=>SH w0 w' LA) f (bits m K0) e w:=by
 simp only [Prod.mk.injEq] at hh
 exact ((qst (C:=(fun w'=>SH w0 w' LA)) (w:=w) (P:=Tryz.prog) qa hC is _ _ _ _ _ _ _ _ _ _ _ (fun p hp w1 hw=>by
  simp only [jR,jH,or_false] at hp
  rcases hp with rfl|rfl
  ·exact SH.box hw i0 hh.1
  ·exact SH.box hw i1 hh.2.1) rfl hh.2.2 ho).2 rfl).2 hk
theorem M3 (K:Nat) (is:List Nat) (i0 i1 i2:Nat) {b0 t0:Nat} {cs0:List Value} {b1 t1:Nat} {cs1:List Value} {b2 t2:Nat} {cs2:List Value} {LA:List Ch} {m K0 f f':Nat} {e':Env} {z:List Nat} (hC:SH w0 w LA) (hh:(LA[i0]?,LA[i1]?,LA[i2]?,xa tab n ops is [(b0,cs0),(b1,cs1),(b2,cs2)] f e [] [])=(some (Ch.box b0 cs0 t0),some (Ch.box b1 cs1 t1),some (Ch.box b2 cs2 t2),some (f',e',z,z)))
  (hk:RunA Tryz.prog n (bodyPost Tryz.prog fnc R) k ops st (fun w'=>SH w0 w' LA) f' (bits m K) e' w) (ho:oka ops st is (bits m K0) (bits m K)=true:=by kernel_rfl):RunA Tryz.prog n (bodyPost Tryz.prog fnc R) k ops st (fun w'=>SH w0 w' LA) f (bits m K0) e w:=by
 simp only [Prod.mk.injEq] at hh
 exact ((qst (C:=(fun w'=>SH w0 w' LA)) (w:=w) (P:=Tryz.prog) qa hC is _ _ _ _ _ _ _ _ _ _ _ (fun p hp w1 hw=>by
  simp only [jR,jH,or_false] at hp
  rcases hp with rfl|rfl|rfl
  ·exact SH.box hw i0 hh.1
  ·exact SH.box hw i1 hh.2.1
  ·exact SH.box hw i2 hh.2.2.1) rfl hh.2.2.2 ho).2 rfl).2 hk
theorem M4 (K:Nat) (is:List Nat) (i0 i1 i2 i3:Nat) {b0 t0:Nat} {cs0:List Value} {b1 t1:Nat} {cs1:List Value} {b2 t2:Nat} {cs2:List Value} {b3 t3:Nat} {cs3:List Value} {LA:List Ch} {m K0 f f':Nat} {e':Env} {z:List Nat} (hC:SH w0 w LA) (hh:(LA[i0]?,LA[i1]?,LA[i2]?,LA[i3]?,xa tab n ops is [(b0,cs0),(b1,cs1),(b2,cs2),(b3,cs3)] f e [] [])=(some (Ch.box b0 cs0 t0),some (Ch.box b1 cs1 t1),some (Ch.box b2 cs2 t2),some (Ch.box b3 cs3 t3),some (f',e',z,z)))
  (hk:RunA Tryz.prog n (bodyPost Tryz.prog fnc R) k ops st (fun w'=>SH w0 w' LA) f' (bits m K) e' w) (ho:oka ops st is (bits m K0) (bits m K)=true:=by kernel_rfl):RunA Tryz.prog n (bodyPost Tryz.prog fnc R) k ops st (fun w'=>SH w0 w' LA) f (bits m K0) e w:=by
 simp only [Prod.mk.injEq] at hh
 exact ((qst (C:=(fun w'=>SH w0 w' LA)) (w:=w) (P:=Tryz.prog) qa hC is _ _ _ _ _ _ _ _ _ _ _ (fun p hp w1 hw=>by
  simp only [jR,jH,or_false] at hp
  rcases hp with rfl|rfl|rfl|rfl
  ·exact SH.box hw i0 hh.1
  ·exact SH.box hw i1 hh.2.1
  ·exact SH.box hw i2 hh.2.2.1
  ·exact SH.box hw i3 hh.2.2.2.1) rfl hh.2.2.2.2 ho).2 rfl).2 hk
theorem Aw (i K:Nat) {C:World→Prop} {m K0 d:Nat} {op:Op} {t:Nat} {ps:String} {af:Array Edge} {v:Value} (hv:∀ w',C w'→Val Tryz.prog n e ⟨some d,op,t,ps,af,none⟩ w' v) (hC:C w) (hh:(ops[i]?,Nat.blt d n)=(some (⟨some d,op,t,ps,af,none⟩:Oper),true))
  (hk:RunA Tryz.prog n (bodyPost Tryz.prog fnc R) k ops st C fuel (bits m K) ((d,v)::e) w) (hl:(bits m K0).setIfInBounds i true=bits m K:=by kernel_rfl)
  (hb:(Region.noSelect ops&&Region.free .any ops (bits m K0) i&&(Region.ready .any ops (bits m K0)).contains i&&st.all (fun s=>!(Nat.beq s i)&&waitsB ops i s&&!((bits m K0).getD s true)))=true:=by kernel_rfl) :
  RunA Tryz.prog n (bodyPost Tryz.prog fnc R) k ops st C (fuel+1) (bits m K0) e w:=by
 simp only [Prod.mk.injEq] at hh
 exact qjv i hh.1 _ hl hb hv hC hh.2 hk
theorem Al (i K j:Nat) {LA:List Ch} {m K0 d t ty b o:Nat} {x:Operand} {te:TE} {ps:String} {af:Array Edge} {v:Value} {cs:List Value} (hc:CellsAt w0 b o cs) (hC:SH w0 w LA)
  (hh:(ops[i]?,opv e x,tab.get t,ld te cs j,Nat.blt d n)=(some (⟨some d,.load t x,ty,ps,af,none⟩:Oper),some (.pointer (some ⟨b,o+j,none⟩)),some te,some v,true))
  (hk:RunA Tryz.prog n (bodyPost Tryz.prog fnc R) k ops st (fun w'=>SH w0 w' LA) fuel (bits m K) ((d,v)::e) w) (hl:(bits m K0).setIfInBounds i true=bits m K:=by kernel_rfl)
  (hb:(Region.noSelect ops&&Region.free .any ops (bits m K0) i&&(Region.ready .any ops (bits m K0)).contains i&&st.all (fun s=>!(Nat.beq s i)&&waitsB ops i s&&!((bits m K0).getD s true)))=true:=by kernel_rfl) :
  RunA Tryz.prog n (bodyPost Tryz.prog fnc R) k ops st (fun w'=>SH w0 w' LA) (fuel+1) (bits m K0) e w:=by
 simp only [Prod.mk.injEq] at hh
 exact qjv i hh.1 _ hl hb (fun w' hw=>qjh qa (hc.below hw.below) (j:=j) hh.2.1 hh.2.2.1 hh.2.2.2.1) hC hh.2.2.2.2 hk
theorem Ax (i K:Nat) {C:World→Prop} {m K0 d t ty el q:Nat} {x ix:Operand} {te te1:TE} {ps:String} {af:Array Edge} {p:Option Addr} {ln c sz:Nat} {kd:IntKind} {iv:Int} {b o:Nat} (hp:p=some ⟨b,o,none⟩) (hq:q=o+iv.toNat*sz) (hlt:0≤iv∧iv<ln) (hC:C w)
  (hh:(ops[i]?,opv e x,opv e ix,tab.get t,te.kind,tab.get el,te1.size,Nat.blt d n)=(some (⟨some d,.indexAddr t x ix,ty,ps,af,none⟩:Oper),some (.slice p ln c),some (.int kd iv),some te,TK.slice el,some te1,sz,true))
  (hk:RunA Tryz.prog n (bodyPost Tryz.prog fnc R) k ops st C fuel (bits m K) ((d,.pointer (some ⟨b,q,none⟩))::e) w) (hl:(bits m K0).setIfInBounds i true=bits m K:=by kernel_rfl)
  (hb:(Region.noSelect ops&&Region.free .any ops (bits m K0) i&&(Region.ready .any ops (bits m K0)).contains i&&st.all (fun s=>!(Nat.beq s i)&&waitsB ops i s&&!((bits m K0).getD s true)))=true:=by kernel_rfl) :
  RunA Tryz.prog n (bodyPost Tryz.prog fnc R) k ops st C (fuel+1) (bits m K0) e w:=by
 simp only [Prod.mk.injEq] at hh
 exact qjv i hh.1 _ hl hb (fun w' _=>qwJ qa hp hq hlt hh.2.1 hh.2.2.1 hh.2.2.2.1 hh.2.2.2.2.1 hh.2.2.2.2.2.1 hh.2.2.2.2.2.2.1) hC hh.2.2.2.2.2.2.2 hk
theorem Ae (i K:Nat) {C:World→Prop} {m K0 d t ty el q:Nat} {x ix:Operand} {te te1:TE} {ps:String} {af:Array Edge} {p:Option Addr} {ln c sz:Nat} {kd:IntKind} {iv:Int} {b o:Nat} {α:Prop} (hp:p=some ⟨b,o,none⟩) (hq:q=o+iv.toNat*sz) (hlt:0≤iv∧iv<ln∧α) (hC:C w)
  (hh:(ops[i]?,opv e x,opv e ix,tab.get t,te.kind,tab.get el,te1.size,Nat.blt d n)=(some (⟨some d,.indexAddr t x ix,ty,ps,af,none⟩:Oper),some (.slice p ln c),some (.int kd iv),some te,TK.slice el,some te1,sz,true))
  (hk:RunA Tryz.prog n (bodyPost Tryz.prog fnc R) k ops st C fuel (bits m K) ((d,.pointer (some ⟨b,q,none⟩))::e) w) (hl:(bits m K0).setIfInBounds i true=bits m K:=by kernel_rfl)
  (hb:(Region.noSelect ops&&Region.free .any ops (bits m K0) i&&(Region.ready .any ops (bits m K0)).contains i&&st.all (fun s=>!(Nat.beq s i)&&waitsB ops i s&&!((bits m K0).getD s true)))=true:=by kernel_rfl) :
  RunA Tryz.prog n (bodyPost Tryz.prog fnc R) k ops st C (fuel+1) (bits m K0) e w:=Ax i K hp hq ⟨hlt.1,hlt.2.1⟩ hC hh hk hl hb
theorem rb {fn:Func} {L:List Ch} {x r:Bool} (h:SH w0 w L) (hF:some x=some r) (hr:res1 e fn.results.toList=some (.bool x)) :
  Run Tryz.prog n (bodyPost Tryz.prog fn fun e w'=>∃ v,e=.returned v∧Below w0.heap.size w0 w'∧∃ us,v=tup us∧GoVs.Vs w' (fresh w0 w') r us) (.code .ret::k) e w:=qyK qa h hF (quv hr)
theorem ri {fn:Func} {L:List Ch} {x r:Int} (h:SH w0 w L) (hF:some x=some r) (hr:res1 e fn.results.toList=some (.int .i64 x)) :
  Run Tryz.prog n (bodyPost Tryz.prog fn fun e w'=>∃ v,e=.returned v∧Below w0.heap.size w0 w'∧∃ us,v=tup us∧GoVs.Vs w' (fresh w0 w') r us) (.code .ret::k) e w:=qyL qa h hF (quv hr)
theorem rO {fn:Func} {L:List Ch} {α:Type} [GoT α] {r:α} {S:Nat→Prop} {cs:List Value} (i:Nat) (h:SH w0 w L) (hi:L[i]?=some (Ch.own S r cs)) (hr:ResOk tab e w fn.results.toList [GoT.v α cs]) :
  Run Tryz.prog n (bodyPost Tryz.prog fn fun e w'=>∃ v,e=.returned v∧Below w0.heap.size w0 w'∧∃ us,v=tup us∧GoVs.Vs w' (fresh w0 w') r us) (.code .ret::k) e w:=qV qa _ h hr (PV.done h (qX (qaz i h hi)))
theorem zV {ρ:Type} [GoVs ρ] {f:FuncId} {fn:Func} {c:Code} {vs:List Value} {r:ρ} (m:Nat) (hf:Tryz.prog.funcs[f]?=some fn) (hh:(fn.body,fn.ntmps,Nat.ble vs.length m)=(some c,m,true))
  (h:SH w w []→Run Tryz.prog m (bodyPost Tryz.prog fn fun e w'=>∃ v,e=.returned v∧Below w.heap.size w w'∧∃ us,v=tup us∧GoVs.Vs w' (fresh w w') r us) [.code c] (argEnv 0 vs) w):RetV Tryz.prog f vs w r:=by
 simp only [Prod.mk.injEq] at hh
 exact qsM hf hh.1 hh.2.1 hh.2.2 h
end
section
variable {w0 w:World} {L:List Ch} {n:Nat} {Q:Exit→Act→World→Prop} {k:List It} {e:Env} {all:Array Oper} {l:List Oper} {d ty:Nat} {ps:String} {af:Array Edge} {x:Operand} {args:Array Operand} {ats:Array TypeId} {f:FuncId} {fi ca:Array Value} {av vs:List Value} {β:Type} {rr:β}
theorem zcI {F:Option Int} {g:Int→Option β} (h:SH w0 w L) (hF:F.bind g=some rr) (hc:∀ {r},F=some r→RetV Tryz.prog f vs w r)
  (hh:(opv e x,opvs e args.toList,fi.toList++av++ca.toList,Nat.blt d n)=(some (.func (.func f) fi ca),some av,vs,true))
  (hk:∀ r w' ,SH w0 w' (L)→g r=some rr→Run Tryz.prog n Q (.ops all l::k) ((d,.int .i64 r)::e) w') (hcall:qfz Tryz.prog f:=by exact cA rfl):Run Tryz.prog n Q (.ops all (⟨some d,.call ⟨.value x,args,ats⟩,ty,ps,af,none⟩::l)::k) e w:=by
 obtain ⟨r,hr,hF⟩:=qc hF
 simp only [Prod.mk.injEq] at hh
 exact qcd r h hcall (hc hr) hh.1 hh.2.1 hh.2.2.1 hh.2.2.2 (fun w'  h'=>hk r w'  h' hF)
theorem zcB {F:Option Bool} {g:Bool→Option β} (h:SH w0 w L) (hF:F.bind g=some rr) (hc:∀ {r},F=some r→RetV Tryz.prog f vs w r)
  (hh:(opv e x,opvs e args.toList,fi.toList++av++ca.toList,Nat.blt d n)=(some (.func (.func f) fi ca),some av,vs,true))
  (hk:∀ r w' ,SH w0 w' (L)→g r=some rr→Run Tryz.prog n Q (.ops all l::k) ((d,.bool r)::e) w') (hcall:qfz Tryz.prog f:=by exact cA rfl):Run Tryz.prog n Q (.ops all (⟨some d,.call ⟨.value x,args,ats⟩,ty,ps,af,none⟩::l)::k) e w:=by
 obtain ⟨r,hr,hF⟩:=qc hF
 simp only [Prod.mk.injEq] at hh
 exact qw4 r h hcall (hc hr) hh.1 hh.2.1 hh.2.2.1 hh.2.2.2 (fun w'  h'=>hk r w'  h' hF)
theorem zcS {F:Option ByteArray} {g:ByteArray→Option β} (h:SH w0 w L) (hF:F.bind g=some rr) (hc:∀ {r},F=some r→RetV Tryz.prog f vs w r)
  (hh:(opv e x,opvs e args.toList,fi.toList++av++ca.toList,Nat.blt d n)=(some (.func (.func f) fi ca),some av,vs,true))
  (hk:∀ r w' ,SH w0 w' (L)→g r=some rr→Run Tryz.prog n Q (.ops all l::k) ((d,.string r)::e) w') (hcall:qfz Tryz.prog f:=by exact cA rfl):Run Tryz.prog n Q (.ops all (⟨some d,.call ⟨.value x,args,ats⟩,ty,ps,af,none⟩::l)::k) e w:=by
 obtain ⟨r,hr,hF⟩:=qc hF
 simp only [Prod.mk.injEq] at hh
 exact qxr r h hcall (hc hr) hh.1 hh.2.1 hh.2.2.1 hh.2.2.2 (fun w'  h'=>hk r w'  h' hF)
theorem zcL {α:Type} [GoT α] {F:Option (List α)} {g:(List α)→Option β} (h:SH w0 w L) (hF:F.bind g=some rr) (hc:∀ {r},F=some r→RetV Tryz.prog f vs w r)
  (hh:(opv e x,opvs e args.toList,fi.toList++av++ca.toList,Nat.blt d n)=(some (.func (.func f) fi ca),some av,vs,true))
  (hk:∀ r w' S p c,SH w0 w' (Ch.own S r [.slice p r.length c]::L)→g r=some rr→Run Tryz.prog n Q (.ops all l::k) ((d,.slice p r.length c)::e) w') (hcall:qfz Tryz.prog f:=by exact cA rfl):Run Tryz.prog n Q (.ops all (⟨some d,.call ⟨.value x,args,ats⟩,ty,ps,af,none⟩::l)::k) e w:=by
 obtain ⟨r,hr,hF⟩:=qc hF
 simp only [Prod.mk.injEq] at hh
 exact qlQ r h hcall (hc hr) hh.1 hh.2.1 hh.2.2.1 hh.2.2.2 (fun w' S p c h'=>hk r w' S p c h' hF)
theorem zcO {α:Type} [GoT α] {F:Option α} {g:α→Option β} (h:SH w0 w L) (hF:F.bind g=some rr) (hc:∀ {r},F=some r→RetV Tryz.prog f vs w r)
  (hh:(opv e x,opvs e args.toList,fi.toList++av++ca.toList,Nat.blt d n)=(some (.func (.func f) fi ca),some av,vs,true))
  (hk:∀ r w' S cs,SH w0 w' (Ch.own S r cs::L)→g r=some rr→Run Tryz.prog n Q (.ops all l::k) ((d,GoT.v α cs)::e) w') (hcall:qfz Tryz.prog f:=by exact cA rfl):Run Tryz.prog n Q (.ops all (⟨some d,.call ⟨.value x,args,ats⟩,ty,ps,af,none⟩::l)::k) e w:=by
 obtain ⟨r,hr,hF⟩:=qc hF
 simp only [Prod.mk.injEq] at hh
 exact qlD r h hcall (hc hr) hh.1 hh.2.1 hh.2.2.1 hh.2.2.2 (fun w' S cs h'=>hk r w' S cs h' hF)
end
def noC:List Nat:=[0,1,288,309]
theorem allC:((List.range 319).all fun f=>noC.contains f || callB Tryz.prog f)=true:=by kernel_rfl
theorem cA {f:Nat} (h:(Nat.blt f 319&&!noC.contains f)=true):qfz Tryz.prog f:=by
 rw [jc,Nat.blt_eq,jE] at h
 have:=List.all_eq_true.1 allC f (List.mem_range.2 h.1)
 rw [h.2] at this
 exact qv3 this
theorem cB (f:Nat) (h:(Nat.blt f 319&&!noC.contains f)=true):qfz Tryz.prog f:=cA h
def qbM (_:Nat) (a:(List Int)) (left:Int):Option Int :=
 bif decide ((W64 (left-(a.length:Int)))<0) then some (-1) else
 some (W64 (left-(a.length:Int)))
theorem qbv {a:(List Int)} {left:Int} (ha1:GoT.R w (old w) a cs1) {r:Int} (hF:qbM n a left=some r):RetV Tryz.prog 31 [GoT.v (List Int) cs1,.int .i64 left] w r:=by
 obtain ⟨p1,k1,rfl,s1⟩:=ha1
 refine zV 12 Tryz.func31 rfl fun h=>X0 18 rfl (qh rfl hF ?_ ?_)<;>intro hF
 ·exact X0 4 rfl (ri h hF rfl)
 exact X0 6 rfl (ri h hF rfl)
def qkv (_:Nat) (a:qaq) (left:Int):Option Int :=
 bif decide ((W64 (left-(a.Bb.size:Int)))<0) then some (-1) else
 some (W64 (left-(a.Bb.size:Int)))
theorem qq2 {a:qaq} {left:Int} (ha1:GoT.R w (old w) a cs1) {r:Int} (hF:qkv n a left=some r):RetV Tryz.prog 204 [GoT.v qaq cs1,.int .i64 left] w r:=by
 obtain rfl:=qbq ha1
 refine zV 13 Tryz.func204 rfl fun h=>zSR (qt h rfl rfl fun w1 bb1 h=>X1 17 0 h rfl (qh rfl hF ?_ ?_))<;>intro hF
 ·exact X0 4 rfl (ri h hF rfl)
 exact X0 6 rfl (ri h hF rfl)
def qe4 (a:(List qaq)):Nat→Int→Int→Option (Flow Int (Int × Int))
 | 0,_,_=>none
 | n+1,i1,i2 =>
  bif decide (i2<(a.length:Int)) then
   (idx a i2).bind fun y1 =>
   (qkv n y1 i1).bind fun r1 =>
   bif decide (r1<0) then some (.ret (-1)) else
   qe4 a n r1 (W64 (i2+1))
  else
   some (.nxt (i1,i2))
def qmS (n:Nat) (a:(List qaq)) (left:Int):Option Int :=
 bif decide ((W64 (left-(a.length:Int)))<0) then some (-1) else
 (qe4 a n (W64 (left-(a.length:Int))) 0).bind fun o=>match o with
 | .ret r=>some r
 | .nxt (i1,_) =>
  some i1
theorem qp1 {a:(List qaq)} {left:Int} (ha1:GoT.R w (old w) a cs1) {r:Int} (hF:qmS n a left=some r):RetV Tryz.prog 175 [GoT.v (List qaq) cs1,.int .i64 left] w r:=by
 obtain ⟨p1,k1,rfl,s1⟩:=ha1
 refine zV 27 Tryz.func175 rfl fun h=>X0 18 rfl (qh rfl hF ?_ ?_)<;>intro hF
 ·exact X0 4 rfl (ri h hF rfl)
 refine X0 6 rfl ?_
 obtain ⟨o1,hF,hK1⟩:=qc hF
 refine ql (rL (fun m e w'=>∃ (i1:Int) (i2:Int),qe4 a m i1 i2=some o1∧e=[(0,.slice p1 a.length k1),(1,.int .i64 i1),(5,.int .i64 i2)]∧SH w w' []) n ⟨_,_,hF,rfl,h⟩ rfl ?_)
 rintro m1 e1 w1 ⟨i1,i2,hF,rfl,h⟩
 rcases m1 with _|m1
 ·cases hF
 refine X0 8 rfl (qh rfl hF ?_ ?_)<;>intro hF
 ·refine X0 7 rfl ?_
  obtain ⟨y1,hy1,hF,he1,b1,_,q1,cs2,hp1,hq1,hr1,hc3⟩:=s1.ix hF
  obtain rfl:=qbq hr1
  refine zxe hp1 hq1 he1 rfl (zc 0 (hc3.below h.below) rfl (zp1 rfl (zcI h hF (qq2 (qi1 y1)) rfl fun r1 w2 h hF=>X0 7 rfl (qh rfl hF ?_ ?_))))<;>intro hF
  ·refine X0 4 rfl ?_
   obtain rfl:=qb hF;replace hF:=hK1
   exact ri h hF rfl
  exact X0 7 rfl (rK ⟨_,_,hF,rfl,h⟩ rfl)
 refine qu rfl ?_
 obtain rfl:=qb hF;replace hF:=hK1
 exact X0 5 rfl (ri h hF rfl)
def qih (n:Nat) (a:qv) (left:Int):Option Int :=
 (qbM n a.Bm left).bind fun r1 =>
 bif decide (r1<0) then some (-1) else
 (qbM n a.Bj r1).bind fun r2 =>
 bif decide (r2<0) then some (-1) else
 (qbM n a.Bh r2).bind fun r3 =>
 bif decide (r3<0) then some (-1) else
 some r3
theorem qpx {a:qv} {left:Int} (ha1:GoT.R w (old w) a cs1) {r:Int} (hF:qih n a left=some r):RetV Tryz.prog 259 [GoT.v qv cs1,.int .i64 left] w r:=by
 obtain ⟨p1,k1,p2,k2,p3,k3,rfl,s1,s2,s3⟩:=qaD ha1
 refine zV 24 Tryz.func259 rfl fun h=>zSR (qt h rfl rfl fun w1 bb1 h=>X1 7 0 h rfl (zcI h hF (qbv ⟨_,_,rfl,(h.oldS s1)⟩) rfl fun r1 w2 h hF=>X0 8 rfl (qh rfl hF ?_ ?_)))<;>intro hF
 ·exact X0 4 rfl (ri h hF rfl)
 refine X1 6 0 h rfl (zcI h hF (qbv ⟨_,_,rfl,(h.oldS s2)⟩) rfl fun r2 w3 h hF=>X0 8 rfl (qh rfl hF ?_ ?_))<;>intro hF
 ·exact X0 4 rfl (ri h hF rfl)
 refine X1 6 0 h rfl (zcI h hF (qbv ⟨_,_,rfl,(h.oldS s3)⟩) rfl fun r3 w4 h hF=>X0 8 rfl (qh rfl hF ?_ ?_))<;>intro hF
 ·exact X0 4 rfl (ri h hF rfl)
 exact X0 6 rfl (ri h hF rfl)
def qd8 (a:(List qv)):Nat→Int→Int→Option (Flow Int (Int × Int))
 | 0,_,_=>none
 | n+1,i1,i2 =>
  bif decide (i2<(a.length:Int)) then
   (idx a i2).bind fun y1 =>
   (qih n y1 i1).bind fun r1 =>
   bif decide (r1<0) then some (.ret (-1)) else
   qd8 a n r1 (W64 (i2+1))
  else
   some (.nxt (i1,i2))
def qiR (n:Nat) (a:(List qv)) (left:Int):Option Int :=
 bif decide ((W64 (left-(a.length:Int)))<0) then some (-1) else
 (qd8 a n (W64 (left-(a.length:Int))) 0).bind fun o=>match o with
 | .ret r=>some r
 | .nxt (i1,_) =>
  some i1
theorem qlp {a:(List qv)} {left:Int} (ha1:GoT.R w (old w) a cs1) {r:Int} (hF:qiR n a left=some r):RetV Tryz.prog 236 [GoT.v (List qv) cs1,.int .i64 left] w r:=by
 obtain ⟨p1,k1,rfl,s1⟩:=ha1
 refine zV 27 Tryz.func236 rfl fun h=>X0 18 rfl (qh rfl hF ?_ ?_)<;>intro hF
 ·exact X0 4 rfl (ri h hF rfl)
 refine X0 6 rfl ?_
 obtain ⟨o1,hF,hK1⟩:=qc hF
 refine ql (rL (fun m e w'=>∃ (i1:Int) (i2:Int),qd8 a m i1 i2=some o1∧e=[(0,.slice p1 a.length k1),(1,.int .i64 i1),(5,.int .i64 i2)]∧SH w w' []) n ⟨_,_,hF,rfl,h⟩ rfl ?_)
 rintro m1 e1 w1 ⟨i1,i2,hF,rfl,h⟩
 rcases m1 with _|m1
 ·cases hF
 refine X0 8 rfl (qh rfl hF ?_ ?_)<;>intro hF
 ·refine X0 7 rfl ?_
  obtain ⟨y1,hy1,hF,he1,b1,_,q1,cs2,hp1,hq1,hr1,hc3⟩:=s1.ix hF
  obtain ⟨p2,k2,p3,k3,p4,k4,rfl,s2,s3,s4⟩:=qaD hr1
  refine zxe hp1 hq1 he1 rfl (zc 0 (hc3.below h.below) rfl (zp1 rfl (zcI h hF (qpx (qeT y1 (h.oldS s2) (h.oldS s3) (h.oldS s4))) rfl fun r1 w2 h hF=>X0 7 rfl (qh rfl hF ?_ ?_))))<;>intro hF
  ·refine X0 4 rfl ?_
   obtain rfl:=qb hF;replace hF:=hK1
   exact ri h hF rfl
  exact X0 7 rfl (rK ⟨_,_,hF,rfl,h⟩ rfl)
 refine qu rfl ?_
 obtain rfl:=qb hF;replace hF:=hK1
 exact X0 5 rfl (ri h hF rfl)
def qj7 (n:Nat) (a:qP) (left:Int):Option Int :=
 (qiR n a.Bp left).bind fun r1 =>
 bif decide (r1<0) then some (-1) else
 (qiR n a.Bc r1).bind fun r2 =>
 bif decide (r2<0) then some (-1) else
 some r2
theorem qq0 {a:qP} {left:Int} (ha1:GoT.R w (old w) a cs1) {r:Int} (hF:qj7 n a left=some r):RetV Tryz.prog 205 [GoT.v qP cs1,.int .i64 left] w r:=by
 obtain ⟨p1,k1,p2,k2,rfl,s1,s2⟩:=qag ha1
 refine zV 18 Tryz.func205 rfl fun h=>zSR (qt h rfl rfl fun w1 bb1 h=>X1 7 0 h rfl (zcI h hF (qlp ⟨_,_,rfl,(h.oldS s1)⟩) rfl fun r1 w2 h hF=>X0 8 rfl (qh rfl hF ?_ ?_)))<;>intro hF
 ·exact X0 4 rfl (ri h hF rfl)
 refine X1 6 0 h rfl (zcI h hF (qlp ⟨_,_,rfl,(h.oldS s2)⟩) rfl fun r2 w3 h hF=>X0 8 rfl (qh rfl hF ?_ ?_))<;>intro hF
 ·exact X0 4 rfl (ri h hF rfl)
 exact X0 6 rfl (ri h hF rfl)
def qfn (a:(List qP)):Nat→Int→Int→Option (Flow Int (Int × Int))
 | 0,_,_=>none
 | n+1,i1,i2 =>
  bif decide (i2<(a.length:Int)) then
   (idx a i2).bind fun y1 =>
   (qj7 n y1 i1).bind fun r1 =>
   bif decide (r1<0) then some (.ret (-1)) else
   qfn a n r1 (W64 (i2+1))
  else
   some (.nxt (i1,i2))
def qmK (n:Nat) (a:(List qP)) (left:Int):Option Int :=
 bif decide ((W64 (left-(a.length:Int)))<0) then some (-1) else
 (qfn a n (W64 (left-(a.length:Int))) 0).bind fun o=>match o with
 | .ret r=>some r
 | .nxt (i1,_) =>
  some i1
theorem qqu {a:(List qP)} {left:Int} (ha1:GoT.R w (old w) a cs1) {r:Int} (hF:qmK n a left=some r):RetV Tryz.prog 176 [GoT.v (List qP) cs1,.int .i64 left] w r:=by
 obtain ⟨p1,k1,rfl,s1⟩:=ha1
 refine zV 27 Tryz.func176 rfl fun h=>X0 18 rfl (qh rfl hF ?_ ?_)<;>intro hF
 ·exact X0 4 rfl (ri h hF rfl)
 refine X0 6 rfl ?_
 obtain ⟨o1,hF,hK1⟩:=qc hF
 refine ql (rL (fun m e w'=>∃ (i1:Int) (i2:Int),qfn a m i1 i2=some o1∧e=[(0,.slice p1 a.length k1),(1,.int .i64 i1),(5,.int .i64 i2)]∧SH w w' []) n ⟨_,_,hF,rfl,h⟩ rfl ?_)
 rintro m1 e1 w1 ⟨i1,i2,hF,rfl,h⟩
 rcases m1 with _|m1
 ·cases hF
 refine X0 8 rfl (qh rfl hF ?_ ?_)<;>intro hF
 ·refine X0 7 rfl ?_
  obtain ⟨y1,hy1,hF,he1,b1,_,q1,cs2,hp1,hq1,hr1,hc3⟩:=s1.ix hF
  obtain ⟨p2,k2,p3,k3,rfl,s2,s3⟩:=qag hr1
  refine zxe hp1 hq1 he1 rfl (zc 0 (hc3.below h.below) rfl (zp1 rfl (zcI h hF (qq0 (qfo y1 (h.oldS s2) (h.oldS s3))) rfl fun r1 w2 h hF=>X0 7 rfl (qh rfl hF ?_ ?_))))<;>intro hF
  ·refine X0 4 rfl ?_
   obtain rfl:=qb hF;replace hF:=hK1
   exact ri h hF rfl
  exact X0 7 rfl (rK ⟨_,_,hF,rfl,h⟩ rfl)
 refine qu rfl ?_
 obtain rfl:=qb hF;replace hF:=hK1
 exact X0 5 rfl (ri h hF rfl)
def qjf (n:Nat) (a:qB) (left:Int):Option Int :=
 bif decide ((W64 (left-(a.Bb.size:Int)))<0) then some (-1) else
 (qmS n a.Be (W64 (left-(a.Bb.size:Int)))).bind fun r1 =>
 bif decide (r1<0) then some (-1) else
 (qmK n a.Au r1).bind fun r2 =>
 bif decide (r2<0) then some (-1) else
 (qbM n a.Br r2).bind fun r3 =>
 bif decide (r3<0) then some (-1) else
 some r3
theorem qqt {a:qB} {left:Int} (ha1:GoT.R w (old w) a cs1) {r:Int} (hF:qjf n a left=some r):RetV Tryz.prog 140 [GoT.v qB cs1,.int .i64 left] w r:=by
 obtain ⟨p1,k1,p2,k2,p3,k3,rfl,s1,s2,s3⟩:=qac ha1
 refine zV 31 Tryz.func140 rfl fun h=>zSR (qt h rfl rfl fun w1 bb1 h=>X1 17 0 h rfl (qh rfl hF ?_ ?_))<;>intro hF
 ·exact X0 4 rfl (ri h hF rfl)
 refine X1 6 0 h rfl (zcI h hF (qp1 ⟨_,_,rfl,(h.oldS s1)⟩) rfl fun r1 w2 h hF=>X0 8 rfl (qh rfl hF ?_ ?_))<;>intro hF
 ·exact X0 4 rfl (ri h hF rfl)
 refine X1 6 0 h rfl (zcI h hF (qqu ⟨_,_,rfl,(h.oldS s2)⟩) rfl fun r2 w3 h hF=>X0 8 rfl (qh rfl hF ?_ ?_))<;>intro hF
 ·exact X0 4 rfl (ri h hF rfl)
 refine X1 6 0 h rfl (zcI h hF (qbv ⟨_,_,rfl,(h.oldS s3)⟩) rfl fun r3 w4 h hF=>X0 8 rfl (qh rfl hF ?_ ?_))<;>intro hF
 ·exact X0 4 rfl (ri h hF rfl)
 exact X0 6 rfl (ri h hF rfl)
def qeu (a:(List qB)):Nat→Int→Int→Option (Flow Int (Int × Int))
 | 0,_,_=>none
 | n+1,i1,i2 =>
  bif decide (i2<(a.length:Int)) then
   (idx a i2).bind fun y1 =>
   (qjf n y1 i1).bind fun r1 =>
   bif decide (r1<0) then some (.ret (-1)) else
   qeu a n r1 (W64 (i2+1))
  else
   some (.nxt (i1,i2))
def qlI (n:Nat) (a:(List qB)) (left:Int):Option Int :=
 bif decide ((W64 (left-(a.length:Int)))<0) then some (-1) else
 (qeu a n (W64 (left-(a.length:Int))) 0).bind fun o=>match o with
 | .ret r=>some r
 | .nxt (i1,_) =>
  some i1
theorem qpo {a:(List qB)} {left:Int} (ha1:GoT.R w (old w) a cs1) {r:Int} (hF:qlI n a left=some r):RetV Tryz.prog 85 [GoT.v (List qB) cs1,.int .i64 left] w r:=by
 obtain ⟨p1,k1,rfl,s1⟩:=ha1
 refine zV 27 Tryz.func85 rfl fun h=>X0 18 rfl (qh rfl hF ?_ ?_)<;>intro hF
 ·exact X0 4 rfl (ri h hF rfl)
 refine X0 6 rfl ?_
 obtain ⟨o1,hF,hK1⟩:=qc hF
 refine ql (rL (fun m e w'=>∃ (i1:Int) (i2:Int),qeu a m i1 i2=some o1∧e=[(0,.slice p1 a.length k1),(1,.int .i64 i1),(5,.int .i64 i2)]∧SH w w' []) n ⟨_,_,hF,rfl,h⟩ rfl ?_)
 rintro m1 e1 w1 ⟨i1,i2,hF,rfl,h⟩
 rcases m1 with _|m1
 ·cases hF
 refine X0 8 rfl (qh rfl hF ?_ ?_)<;>intro hF
 ·refine X0 7 rfl ?_
  obtain ⟨y1,hy1,hF,he1,b1,_,q1,cs2,hp1,hq1,hr1,hc3⟩:=s1.ix hF
  obtain ⟨p2,k2,p3,k3,p4,k4,rfl,s2,s3,s4⟩:=qac hr1
  refine zxe hp1 hq1 he1 rfl (zc 0 (hc3.below h.below) rfl (zp1 rfl (zcI h hF (qqt (qjV y1 (h.oldS s2) (h.oldS s3) (h.oldS s4))) rfl fun r1 w2 h hF=>X0 7 rfl (qh rfl hF ?_ ?_))))<;>intro hF
  ·refine X0 4 rfl ?_
   obtain rfl:=qb hF;replace hF:=hK1
   exact ri h hF rfl
  exact X0 7 rfl (rK ⟨_,_,hF,rfl,h⟩ rfl)
 refine qu rfl ?_
 obtain rfl:=qb hF;replace hF:=hK1
 exact X0 5 rfl (ri h hF rfl)
def qic (n:Nat) (a:qp) (left:Int):Option Int :=
 (qlI n a.Aq left).bind fun r1 =>
 bif decide (r1<0) then some (-1) else
 some r1
theorem qn7 {a:qp} {left:Int} (ha1:GoT.R w (old w) a cs1) {r:Int} (hF:qic n a left=some r):RetV Tryz.prog 56 [GoT.v qp cs1,.int .i64 left] w r:=by
 obtain ⟨p1,k1,rfl,s1⟩:=qbw ha1
 refine zV 12 Tryz.func56 rfl fun h=>zSR (qt h rfl rfl fun w1 bb1 h=>X1 7 0 h rfl (zcI h hF (qpo ⟨_,_,rfl,(h.oldS s1)⟩) rfl fun r1 w2 h hF=>X0 8 rfl (qh rfl hF ?_ ?_)))<;>intro hF
 ·exact X0 4 rfl (ri h hF rfl)
 exact X0 6 rfl (ri h hF rfl)
def qfM (n:Nat) (a:qn) (left:Int):Option Int :=
 bif decide ((W64 (left-(a.Bb.size:Int)))<0) then some (-1) else
 (qbM n a.Am (W64 (left-(a.Bb.size:Int)))).bind fun r1 =>
 bif decide (r1<0) then some (-1) else
 some r1
theorem qny {a:qn} {left:Int} (ha1:GoT.R w (old w) a cs1) {r:Int} (hF:qfM n a left=some r):RetV Tryz.prog 141 [GoT.v qn cs1,.int .i64 left] w r:=by
 obtain ⟨p1,k1,rfl,s1⟩:=qO ha1
 refine zV 19 Tryz.func141 rfl fun h=>zSR (qt h rfl rfl fun w1 bb1 h=>X1 17 0 h rfl (qh rfl hF ?_ ?_))<;>intro hF
 ·exact X0 4 rfl (ri h hF rfl)
 refine X1 6 0 h rfl (zcI h hF (qbv ⟨_,_,rfl,(h.oldS s1)⟩) rfl fun r1 w2 h hF=>X0 8 rfl (qh rfl hF ?_ ?_))<;>intro hF
 ·exact X0 4 rfl (ri h hF rfl)
 exact X0 6 rfl (ri h hF rfl)
def qcJ (a:(List qn)):Nat→Int→Int→Option (Flow Int (Int × Int))
 | 0,_,_=>none
 | n+1,i1,i2 =>
  bif decide (i2<(a.length:Int)) then
   (idx a i2).bind fun y1 =>
   (qfM n y1 i1).bind fun r1 =>
   bif decide (r1<0) then some (.ret (-1)) else
   qcJ a n r1 (W64 (i2+1))
  else
   some (.nxt (i1,i2))
def qix (n:Nat) (a:(List qn)) (left:Int):Option Int :=
 bif decide ((W64 (left-(a.length:Int)))<0) then some (-1) else
 (qcJ a n (W64 (left-(a.length:Int))) 0).bind fun o=>match o with
 | .ret r=>some r
 | .nxt (i1,_) =>
  some i1
theorem qnm {a:(List qn)} {left:Int} (ha1:GoT.R w (old w) a cs1) {r:Int} (hF:qix n a left=some r):RetV Tryz.prog 86 [GoT.v (List qn) cs1,.int .i64 left] w r:=by
 obtain ⟨p1,k1,rfl,s1⟩:=ha1
 refine zV 27 Tryz.func86 rfl fun h=>X0 18 rfl (qh rfl hF ?_ ?_)<;>intro hF
 ·exact X0 4 rfl (ri h hF rfl)
 refine X0 6 rfl ?_
 obtain ⟨o1,hF,hK1⟩:=qc hF
 refine ql (rL (fun m e w'=>∃ (i1:Int) (i2:Int),qcJ a m i1 i2=some o1∧e=[(0,.slice p1 a.length k1),(1,.int .i64 i1),(5,.int .i64 i2)]∧SH w w' []) n ⟨_,_,hF,rfl,h⟩ rfl ?_)
 rintro m1 e1 w1 ⟨i1,i2,hF,rfl,h⟩
 rcases m1 with _|m1
 ·cases hF
 refine X0 8 rfl (qh rfl hF ?_ ?_)<;>intro hF
 ·refine X0 7 rfl ?_
  obtain ⟨y1,hy1,hF,he1,b1,_,q1,cs2,hp1,hq1,hr1,hc3⟩:=s1.ix hF
  obtain ⟨p2,k2,rfl,s2⟩:=qO hr1
  refine zxe hp1 hq1 he1 rfl (zc 0 (hc3.below h.below) rfl (zp1 rfl (zcI h hF (qny (qf0 y1 (h.oldS s2))) rfl fun r1 w2 h hF=>X0 7 rfl (qh rfl hF ?_ ?_))))<;>intro hF
  ·refine X0 4 rfl ?_
   obtain rfl:=qb hF;replace hF:=hK1
   exact ri h hF rfl
  exact X0 7 rfl (rK ⟨_,_,hF,rfl,h⟩ rfl)
 refine qu rfl ?_
 obtain rfl:=qb hF;replace hF:=hK1
 exact X0 5 rfl (ri h hF rfl)
def qdq (a:(List ByteArray)):Nat→Int→Int→Option (Flow Int (Int × Int))
 | 0,_,_=>none
 | n+1,i1,i2 =>
  bif decide (i2<(a.length:Int)) then
   (idx a i2).bind fun y1 =>
   bif decide ((W64 (i1-(y1.size:Int)))<0) then some (.ret (-1)) else
   qdq a n (W64 (i1-(y1.size:Int))) (W64 (i2+1))
  else
   some (.nxt (i1,i2))
def qks (n:Nat) (a:(List ByteArray)) (left:Int):Option Int :=
 bif decide ((W64 (left-(a.length:Int)))<0) then some (-1) else
 (qdq a n (W64 (left-(a.length:Int))) 0).bind fun o=>match o with
 | .ret r=>some r
 | .nxt (i1,_) =>
  some i1
theorem qoj {a:(List ByteArray)} {left:Int} (ha1:GoT.R w (old w) a cs1) {r:Int} (hF:qks n a left=some r):RetV Tryz.prog 87 [GoT.v (List ByteArray) cs1,.int .i64 left] w r:=by
 obtain ⟨p1,k1,rfl,s1⟩:=ha1
 refine zV 28 Tryz.func87 rfl fun h=>X0 18 rfl (qh rfl hF ?_ ?_)<;>intro hF
 ·exact X0 4 rfl (ri h hF rfl)
 refine X0 6 rfl ?_
 obtain ⟨o1,hF,hK1⟩:=qc hF
 refine ql (rL (fun m e w'=>∃ (i1:Int) (i2:Int),qdq a m i1 i2=some o1∧e=[(0,.slice p1 a.length k1),(1,.int .i64 i1),(5,.int .i64 i2)]∧SH w w' []) n ⟨_,_,hF,rfl,h⟩ rfl ?_)
 rintro m1 e1 w1 ⟨i1,i2,hF,rfl,h⟩
 rcases m1 with _|m1
 ·cases hF
 refine X0 8 rfl (qh rfl hF ?_ ?_)<;>intro hF
 ·refine X0 8 rfl ?_
  obtain ⟨y1,hy1,hF,he1,b1,_,q1,cs2,hp1,hq1,rfl,hc3⟩:=s1.ix hF
  refine zxe hp1 hq1 he1 rfl (zc 0 (hc3.below h.below) rfl (X0 9 rfl (qh rfl hF ?_ ?_)))<;>intro hF
  ·refine X0 4 rfl ?_
   obtain rfl:=qb hF;replace hF:=hK1
   exact ri h hF rfl
  exact X0 7 rfl (rK ⟨_,_,hF,rfl,h⟩ rfl)
 refine qu rfl ?_
 obtain rfl:=qb hF;replace hF:=hK1
 exact X0 5 rfl (ri h hF rfl)
def qi7 (_:Nat) (a:qam) (left:Int):Option Int :=
 bif decide ((W64 (left-(a.Bb.size:Int)))<0) then some (-1) else
 some (W64 (left-(a.Bb.size:Int)))
theorem qqo {a:qam} {left:Int} (ha1:GoT.R w (old w) a cs1) {r:Int} (hF:qi7 n a left=some r):RetV Tryz.prog 142 [GoT.v qam cs1,.int .i64 left] w r:=by
 obtain rfl:=qbj ha1
 refine zV 13 Tryz.func142 rfl fun h=>zSR (qt h rfl rfl fun w1 bb1 h=>X1 17 0 h rfl (qh rfl hF ?_ ?_))<;>intro hF
 ·exact X0 4 rfl (ri h hF rfl)
 exact X0 6 rfl (ri h hF rfl)
def qez (a:(List qam)):Nat→Int→Int→Option (Flow Int (Int × Int))
 | 0,_,_=>none
 | n+1,i1,i2 =>
  bif decide (i2<(a.length:Int)) then
   (idx a i2).bind fun y1 =>
   (qi7 n y1 i1).bind fun r1 =>
   bif decide (r1<0) then some (.ret (-1)) else
   qez a n r1 (W64 (i2+1))
  else
   some (.nxt (i1,i2))
def qlP (n:Nat) (a:(List qam)) (left:Int):Option Int :=
 bif decide ((W64 (left-(a.length:Int)))<0) then some (-1) else
 (qez a n (W64 (left-(a.length:Int))) 0).bind fun o=>match o with
 | .ret r=>some r
 | .nxt (i1,_) =>
  some i1
theorem qpH {a:(List qam)} {left:Int} (ha1:GoT.R w (old w) a cs1) {r:Int} (hF:qlP n a left=some r):RetV Tryz.prog 88 [GoT.v (List qam) cs1,.int .i64 left] w r:=by
 obtain ⟨p1,k1,rfl,s1⟩:=ha1
 refine zV 27 Tryz.func88 rfl fun h=>X0 18 rfl (qh rfl hF ?_ ?_)<;>intro hF
 ·exact X0 4 rfl (ri h hF rfl)
 refine X0 6 rfl ?_
 obtain ⟨o1,hF,hK1⟩:=qc hF
 refine ql (rL (fun m e w'=>∃ (i1:Int) (i2:Int),qez a m i1 i2=some o1∧e=[(0,.slice p1 a.length k1),(1,.int .i64 i1),(5,.int .i64 i2)]∧SH w w' []) n ⟨_,_,hF,rfl,h⟩ rfl ?_)
 rintro m1 e1 w1 ⟨i1,i2,hF,rfl,h⟩
 rcases m1 with _|m1
 ·cases hF
 refine X0 8 rfl (qh rfl hF ?_ ?_)<;>intro hF
 ·refine X0 7 rfl ?_
  obtain ⟨y1,hy1,hF,he1,b1,_,q1,cs2,hp1,hq1,hr1,hc3⟩:=s1.ix hF
  obtain rfl:=qbj hr1
  refine zxe hp1 hq1 he1 rfl (zc 0 (hc3.below h.below) rfl (zp1 rfl (zcI h hF (qqo (qiw y1)) rfl fun r1 w2 h hF=>X0 7 rfl (qh rfl hF ?_ ?_))))<;>intro hF
  ·refine X0 4 rfl ?_
   obtain rfl:=qb hF;replace hF:=hK1
   exact ri h hF rfl
  exact X0 7 rfl (rK ⟨_,_,hF,rfl,h⟩ rfl)
 refine qu rfl ?_
 obtain rfl:=qb hF;replace hF:=hK1
 exact X0 5 rfl (ri h hF rfl)
def qiW (n:Nat) (a:qd) (left:Int):Option Int :=
 (qix n a.Aa left).bind fun r1 =>
 bif decide (r1<0) then some (-1) else
 (qks n a.Am r1).bind fun r2 =>
 bif decide (r2<0) then some (-1) else
 (qlP n a.Aj r2).bind fun r3 =>
 bif decide (r3<0) then some (-1) else
 some r3
theorem qoD {a:qd} {left:Int} (ha1:GoT.R w (old w) a cs1) {r:Int} (hF:qiW n a left=some r):RetV Tryz.prog 57 [GoT.v qd cs1,.int .i64 left] w r:=by
 obtain ⟨p1,k1,p2,k2,p3,k3,rfl,s1,s2,s3⟩:=qat ha1
 refine zV 24 Tryz.func57 rfl fun h=>zSR (qt h rfl rfl fun w1 bb1 h=>X1 7 0 h rfl (zcI h hF (qnm ⟨_,_,rfl,(h.oldS s1)⟩) rfl fun r1 w2 h hF=>X0 8 rfl (qh rfl hF ?_ ?_)))<;>intro hF
 ·exact X0 4 rfl (ri h hF rfl)
 refine X1 6 0 h rfl (zcI h hF (qoj ⟨_,_,rfl,(h.oldS s2)⟩) rfl fun r2 w3 h hF=>X0 8 rfl (qh rfl hF ?_ ?_))<;>intro hF
 ·exact X0 4 rfl (ri h hF rfl)
 refine X1 6 0 h rfl (zcI h hF (qpH ⟨_,_,rfl,(h.oldS s3)⟩) rfl fun r3 w4 h hF=>X0 8 rfl (qh rfl hF ?_ ?_))<;>intro hF
 ·exact X0 4 rfl (ri h hF rfl)
 exact X0 6 rfl (ri h hF rfl)
def qi6 (n:Nat) (a:qQ) (left:Int):Option Int :=
 (qbM n a.Ak left).bind fun r1 =>
 bif decide (r1<0) then some (-1) else
 (qbM n a.Bw r1).bind fun r2 =>
 bif decide (r2<0) then some (-1) else
 (qbM n a.Bt r2).bind fun r3 =>
 bif decide (r3<0) then some (-1) else
 (qbM n a.Bl r3).bind fun r4 =>
 bif decide (r4<0) then some (-1) else
 some r4
theorem qpY {a:qQ} {left:Int} (ha1:GoT.R w (old w) a cs1) {r:Int} (hF:qi6 n a left=some r):RetV Tryz.prog 89 [GoT.v qQ cs1,.int .i64 left] w r:=by
 obtain ⟨p1,k1,p2,k2,p3,k3,p4,k4,rfl,s1,s2,s3,s4⟩:=qaL ha1
 refine zV 30 Tryz.func89 rfl fun h=>zSR (qt h rfl rfl fun w1 bb1 h=>X1 7 0 h rfl (zcI h hF (qbv ⟨_,_,rfl,(h.oldS s1)⟩) rfl fun r1 w2 h hF=>X0 8 rfl (qh rfl hF ?_ ?_)))<;>intro hF
 ·exact X0 4 rfl (ri h hF rfl)
 refine X1 6 0 h rfl (zcI h hF (qbv ⟨_,_,rfl,(h.oldS s2)⟩) rfl fun r2 w3 h hF=>X0 8 rfl (qh rfl hF ?_ ?_))<;>intro hF
 ·exact X0 4 rfl (ri h hF rfl)
 refine X1 6 0 h rfl (zcI h hF (qbv ⟨_,_,rfl,(h.oldS s3)⟩) rfl fun r3 w4 h hF=>X0 8 rfl (qh rfl hF ?_ ?_))<;>intro hF
 ·exact X0 4 rfl (ri h hF rfl)
 refine X1 6 0 h rfl (zcI h hF (qbv ⟨_,_,rfl,(h.oldS s4)⟩) rfl fun r4 w5 h hF=>X0 8 rfl (qh rfl hF ?_ ?_))<;>intro hF
 ·exact X0 4 rfl (ri h hF rfl)
 exact X0 6 rfl (ri h hF rfl)
def qew (a:(List qQ)):Nat→Int→Int→Option (Flow Int (Int × Int))
 | 0,_,_=>none
 | n+1,i1,i2 =>
  bif decide (i2<(a.length:Int)) then
   (idx a i2).bind fun y1 =>
   (qi6 n y1 i1).bind fun r1 =>
   bif decide (r1<0) then some (.ret (-1)) else
   qew a n r1 (W64 (i2+1))
  else
   some (.nxt (i1,i2))
def qlX (n:Nat) (a:(List qQ)) (left:Int):Option Int :=
 bif decide ((W64 (left-(a.length:Int)))<0) then some (-1) else
 (qew a n (W64 (left-(a.length:Int))) 0).bind fun o=>match o with
 | .ret r=>some r
 | .nxt (i1,_) =>
  some i1
theorem qpD {a:(List qQ)} {left:Int} (ha1:GoT.R w (old w) a cs1) {r:Int} (hF:qlX n a left=some r):RetV Tryz.prog 58 [GoT.v (List qQ) cs1,.int .i64 left] w r:=by
 obtain ⟨p1,k1,rfl,s1⟩:=ha1
 refine zV 27 Tryz.func58 rfl fun h=>X0 18 rfl (qh rfl hF ?_ ?_)<;>intro hF
 ·exact X0 4 rfl (ri h hF rfl)
 refine X0 6 rfl ?_
 obtain ⟨o1,hF,hK1⟩:=qc hF
 refine ql (rL (fun m e w'=>∃ (i1:Int) (i2:Int),qew a m i1 i2=some o1∧e=[(0,.slice p1 a.length k1),(1,.int .i64 i1),(5,.int .i64 i2)]∧SH w w' []) n ⟨_,_,hF,rfl,h⟩ rfl ?_)
 rintro m1 e1 w1 ⟨i1,i2,hF,rfl,h⟩
 rcases m1 with _|m1
 ·cases hF
 refine X0 8 rfl (qh rfl hF ?_ ?_)<;>intro hF
 ·refine X0 7 rfl ?_
  obtain ⟨y1,hy1,hF,he1,b1,_,q1,cs2,hp1,hq1,hr1,hc3⟩:=s1.ix hF
  obtain ⟨p2,k2,p3,k3,p4,k4,p5,k5,rfl,s2,s3,s4,s5⟩:=qaL hr1
  refine zxe hp1 hq1 he1 rfl (zc 0 (hc3.below h.below) rfl (zp1 rfl (zcI h hF (qpY (qjZ y1 (h.oldS s2) (h.oldS s3) (h.oldS s4) (h.oldS s5))) rfl fun r1 w2 h hF=>X0 7 rfl (qh rfl hF ?_ ?_))))<;>intro hF
  ·refine X0 4 rfl ?_
   obtain rfl:=qb hF;replace hF:=hK1
   exact ri h hF rfl
  exact X0 7 rfl (rK ⟨_,_,hF,rfl,h⟩ rfl)
 refine qu rfl ?_
 obtain rfl:=qb hF;replace hF:=hK1
 exact X0 5 rfl (ri h hF rfl)
def qjC (n:Nat) (a:qf) (left:Int):Option Int :=
 (qic n (⟨a.Av.Aq⟩:qp) left).bind fun r1 =>
 bif decide (r1<0) then some (-1) else
 (qiW n (⟨a.Ab.Aa,a.Ab.Am,a.Ab.Aj⟩:qd) r1).bind fun r2 =>
 bif decide (r2<0) then some (-1) else
 (qlX n a.Ac r2).bind fun r3 =>
 bif decide (r3<0) then some (-1) else
 some r3
theorem qpJ {a:qf} {left:Int} (ha1:GoT.R w (old w) a cs1) {r:Int} (hF:qjC n a left=some r):RetV Tryz.prog 29 [GoT.v qf cs1,.int .i64 left] w r:=by
 obtain ⟨p1,k1,p2,k2,p3,k3,p4,k4,p5,k5,rfl,s1,s2,s3,s4,s5⟩:=qab ha1
 refine zV 24 Tryz.func29 rfl fun h=>zSR (qt h rfl rfl fun w1 bb1 h=>X1 7 0 h rfl (zcI h hF (qn7 (qdR _ (h.oldS s1))) rfl fun r1 w2 h hF=>X0 8 rfl (qh rfl hF ?_ ?_)))<;>intro hF
 ·exact X0 4 rfl (ri h hF rfl)
 refine X1 6 0 h rfl (zcI h hF (qoD (qao _ (h.oldS s2) (h.oldS s3) (h.oldS s4))) rfl fun r2 w3 h hF=>X0 8 rfl (qh rfl hF ?_ ?_))<;>intro hF
 ·exact X0 4 rfl (ri h hF rfl)
 refine X1 6 0 h rfl (zcI h hF (qpD ⟨_,_,rfl,(h.oldS s5)⟩) rfl fun r3 w4 h hF=>X0 8 rfl (qh rfl hF ?_ ?_))<;>intro hF
 ·exact X0 4 rfl (ri h hF rfl)
 exact X0 6 rfl (ri h hF rfl)
def qfj (a:(List Int)):Nat→(List Int)→Int→Option ((List Int) × Int)
 | 0,_,_=>none
 | n+1,x2,i1 =>
  bif decide (i1<(a.length:Int)) then
   (idx a i1).bind fun y1 =>
   (idx x2 i1).bind fun _ =>
   qfj a n (setS x2 i1 y1) (W64 (i1+1))
  else
   some (x2,i1)
def qaP (n:Nat) (a:(List Int)):Option (List Int) :=
 (mkS (a.length:Int) (0:Int)).bind fun x1 =>
 (qfj a n x1 0).bind fun o=>match o with
 | (x2,_) =>
  some x2
theorem qaI {a:(List Int)} (ha1:GoT.R w (old w) a cs1) {r:(List Int)} (hF:qaP n a=some r):RetV Tryz.prog 12 [GoT.v (List Int) cs1] w r:=by
 obtain ⟨p1,k1,rfl,s1⟩:=ha1
 refine zV 22 Tryz.func12 rfl fun h=>X0 8 rfl ?_
 obtain ⟨x1,hx1,hF⟩:=qc hF
 obtain ⟨g1,g2,hx1⟩:=qN hx1
 refine qai qa Int h rfl rfl rfl rfl rfl rfl rfl rfl rfl g1 g2 hx1 rfl fun w1 S1 p2 h=>X0 7 rfl ?_
 obtain ⟨o1,hF,hK1⟩:=qc hF
 refine ql (rL (fun m e w'=>∃ (x2:(List Int)) (i1:Int),qfj a m x2 i1=some o1∧e=[(0,.slice p1 a.length k1),(3,.slice p2 x1.length x1.length),(4,.int .i64 i1)]∧SH w w' [Ch.own S1 (x2:List Int) [.slice p2 x1.length x1.length]]) n ⟨_,_,hF,rfl,h⟩ rfl ?_)
 rintro m1 e1 w2 ⟨x2,i1,hF,rfl,h⟩
 rcases m1 with _|m1
 ·cases hF
 refine X0 8 rfl (qh rfl hF ?_ ?_)<;>intro hF
 ·refine X0 8 rfl ?_
  obtain ⟨y1,hy1,hF,he1,b1,_,q1,cs2,hp1,hq1,rfl,hc2⟩:=s1.ix hF
  refine zxe hp1 hq1 he1 rfl (zc 0 (hc2.below h.below) rfl ?_)
  obtain ⟨y2,hy2,hF,he2,b2,_,q2,cs3,hp2,hq2,rfl,hc3⟩:=(h.sl 0 rfl).1.ix hF
  exact zx hp2 hq2 ⟨he2.1,qU he2.2.1 (h.sl 0 rfl).2⟩ rfl (qbu qa 0 0 y1 h rfl hy2 hp2 hq2 rfl hc3 rfl rfl rfl rfl rfl rfl rfl fun w3 h=>X0 7 rfl (rK ⟨_,_,hF,rfl,h⟩ rfl))
 refine qu rfl ?_
 obtain rfl:=qb hF;replace hF:=hK1
 refine X0 5 rfl ?_
 obtain rfl:=qb hF
 exact rO 0 h rfl ⟨rfl,trivial⟩
def qkt (_:Nat) (a:qaq):Option qaq :=
 some (⟨a.Bb,a.Bv,a.Bt,a.Bq⟩:qaq)
theorem qq7 {a:qaq} (ha1:GoT.R w (old w) a cs1) {r:qaq} (hF:qkt n a=some r):RetV Tryz.prog 209 [GoT.v qaq cs1] w r:=by
 obtain rfl:=qbq ha1
 refine zV 17 Tryz.func209 rfl fun h=>zSR (qt h rfl rfl fun w1 bb1 h=>qm qa h rfl rfl rfl fun w2 bb2 h=>zNSR (qm qa h rfl rfl rfl fun w3 bb3 h=>X1 6 2 h rfl (zs 0 h rfl fun w4 h=>X1 6 2 h rfl (zs 0 h rfl fun w5 h=>X1 6 2 h rfl (zs 0 h rfl fun w6 h=>X1 6 2 h rfl (zs 0 h rfl fun w7 h=>X1 4 0 h rfl (zs 1 h rfl fun w8 h=>qcw ?_)))))))
 obtain rfl:=qb hF
 exact qV qa (ρ:=qaq) [GoT.v qaq (qou a)] h ⟨⟨_,_,_,rfl,rfl,h.box 1 rfl,rfl⟩,trivial⟩ (PV.done h (qX (qw (S:=fun _=>False) (qi1 (⟨a.Bb,a.Bv,a.Bt,a.Bq⟩:qaq)))))
def qgx (a:(List qaq)):Nat→(List qaq)→Int→Option ((List qaq) × Int)
 | 0,_,_=>none
 | n+1,x2,i1 =>
  bif decide (i1<(a.length:Int)) then
   (idx a i1).bind fun y1 =>
   (qkt n y1).bind fun r1 =>
   (idx x2 i1).bind fun _ =>
   qgx a n (setS x2 i1 r1) (W64 (i1+1))
  else
   some (x2,i1)
def qkF (n:Nat) (a:(List qaq)):Option (List qaq) :=
 (mkS (a.length:Int) ((⟨ByteArray.empty,0,0,false⟩:qaq):qaq)).bind fun x1 =>
 (qgx a n x1 0).bind fun o=>match o with
 | (x2,_) =>
  some x2
theorem qqE {a:(List qaq)} (ha1:GoT.R w (old w) a cs1) {r:(List qaq)} (hF:qkF n a=some r):RetV Tryz.prog 184 [GoT.v (List qaq) cs1] w r:=by
 obtain ⟨p1,k1,rfl,s1⟩:=ha1
 refine zV 23 Tryz.func184 rfl fun h=>X0 8 rfl ?_
 obtain ⟨x1,hx1,hF⟩:=qc hF
 obtain ⟨g1,g2,hx1⟩:=qN hx1
 refine qai qa qaq h rfl rfl rfl rfl rfl rfl rfl rfl rfl g1 g2 hx1 rfl fun w1 S1 p2 h=>X0 7 rfl ?_
 obtain ⟨o1,hF,hK1⟩:=qc hF
 refine ql (rL (fun m e w'=>∃ (x2:(List qaq)) (i1:Int),qgx a m x2 i1=some o1∧e=[(0,.slice p1 a.length k1),(3,.slice p2 x1.length x1.length),(4,.int .i64 i1)]∧SH w w' [Ch.own S1 (x2:List qaq) [.slice p2 x1.length x1.length]]) n ⟨_,_,hF,rfl,h⟩ rfl ?_)
 rintro m1 e1 w2 ⟨x2,i1,hF,rfl,h⟩
 rcases m1 with _|m1
 ·cases hF
 refine X0 8 rfl (qh rfl hF ?_ ?_)<;>intro hF
 ·refine X0 8 rfl ?_
  obtain ⟨y1,hy1,hF,he1,b1,_,q1,cs2,hp1,hq1,hr1,hc2⟩:=s1.ix hF
  obtain rfl:=qbq hr1
  refine zxe hp1 hq1 he1 rfl (zc 0 (hc2.below h.below) rfl (zcO h hF (qq7 (qi1 y1)) rfl fun r1 w3 S2 cs3 h hF=>?_))
  obtain rfl:=qbq (h.own 0 rfl)
  obtain ⟨y2,hy2,hF,he2,b2,_,q2,cs4,hp2,hq2,hr3,hc3⟩:=(h.sl 1 rfl).1.ix hF
  obtain rfl:=qbq hr3
  refine zx hp2 hq2 ⟨he2.1,qU he2.2.1 (h.sl 1 rfl).2⟩ rfl (qbu qa 1 0 r1 h rfl hy2 hp2 hq2 (qi1 y2) hc3 rfl rfl rfl (qi1 r1) rfl rfl rfl fun w4 h=>X0 7 rfl ?_)
  replace h:=h.pick [1] rfl
  exact rK ⟨_,_,hF,rfl,h⟩ rfl
 refine qu rfl ?_
 obtain rfl:=qb hF;replace hF:=hK1
 refine X0 5 rfl ?_
 obtain rfl:=qb hF
 exact rO 0 h rfl ⟨rfl,trivial⟩
def qhM (n:Nat) (a:qv):Option qv :=
 (qaP n a.Bm).bind fun r1 =>
 (qaP n a.Bj).bind fun r2 =>
 (qaP n a.Bh).bind fun r3 =>
 some (⟨r1,r2,r3⟩:qv)
theorem qpn {a:qv} (ha1:GoT.R w (old w) a cs1) {r:qv} (hF:qhM n a=some r):RetV Tryz.prog 263 [GoT.v qv cs1] w r:=by
 obtain ⟨p1,k1,p2,k2,p3,k3,rfl,s1,s2,s3⟩:=qaD ha1
 refine zV 17 Tryz.func263 rfl fun h=>zSR (qt h rfl rfl fun w1 bb1 h=>qm qa h rfl rfl rfl fun w2 bb2 h=>zNSR (qm qa h rfl rfl rfl fun w3 bb3 h=>X1 5 2 h rfl (zcL h hF (qaI ⟨_,_,rfl,(h.oldS s1)⟩) rfl fun r1 w4 S1 p4 k4 h hF=>zp1 rfl (zs 1 h rfl fun w5 h=>X1 5 3 h rfl (zcL h hF (qaI ⟨_,_,rfl,(h.oldS s2)⟩) rfl fun r2 w6 S2 p5 k5 h hF=>zp1 rfl (zs 2 h rfl fun w7 h=>X1 5 4 h rfl (zcL h hF (qaI ⟨_,_,rfl,(h.oldS s3)⟩) rfl fun r3 w8 S3 p6 k6 h hF=>zp1 rfl (zs 3 h rfl fun w9 h=>X1 4 3 h rfl (zs 4 h rfl fun w10 h=>qcw ?_)))))))))
 obtain rfl:=qb hF
 exact qV qa (ρ:=qv) [GoT.v qv [.slice p4 r1.length k4,.slice p5 r2.length k5,.slice p6 r3.length k6]] h ⟨⟨_,_,_,rfl,rfl,h.box 4 rfl,rfl⟩,trivial⟩ (PV.done h (qX (qvm (⟨r1,r2,r3⟩:qv) h (qaz 2 h rfl) (qaz 1 h rfl) (qaz 0 h rfl) (by rfl) (by rfl))))
def qe7 (a:(List qv)):Nat→(List qv)→Int→Option ((List qv) × Int)
 | 0,_,_=>none
 | n+1,x2,i1 =>
  bif decide (i1<(a.length:Int)) then
   (idx a i1).bind fun y1 =>
   (qhM n y1).bind fun r1 =>
   (idx x2 i1).bind fun _ =>
   qe7 a n (setS x2 i1 r1) (W64 (i1+1))
  else
   some (x2,i1)
def qhg (n:Nat) (a:(List qv)):Option (List qv) :=
 (mkS (a.length:Int) ((⟨[],[],[]⟩:qv):qv)).bind fun x1 =>
 (qe7 a n x1 0).bind fun o=>match o with
 | (x2,_) =>
  some x2
theorem qlu {a:(List qv)} (ha1:GoT.R w (old w) a cs1) {r:(List qv)} (hF:qhg n a=some r):RetV Tryz.prog 238 [GoT.v (List qv) cs1] w r:=by
 obtain ⟨p1,k1,rfl,s1⟩:=ha1
 refine zV 23 Tryz.func238 rfl fun h=>X0 8 rfl ?_
 obtain ⟨x1,hx1,hF⟩:=qc hF
 obtain ⟨g1,g2,hx1⟩:=qN hx1
 refine qai qa qv h rfl rfl rfl rfl rfl rfl rfl rfl rfl g1 g2 hx1 rfl fun w1 S1 p2 h=>X0 7 rfl ?_
 obtain ⟨o1,hF,hK1⟩:=qc hF
 refine ql (rL (fun m e w'=>∃ (S2:Nat→Prop) (x2:(List qv)) (i1:Int),qe7 a m x2 i1=some o1∧e=[(0,.slice p1 a.length k1),(3,.slice p2 x1.length x1.length),(4,.int .i64 i1)]∧SH w w' [Ch.own S2 (x2:List qv) [.slice p2 x1.length x1.length]]) n ⟨_,_,_,hF,rfl,h⟩ rfl ?_)
 rintro m1 e1 w2 ⟨S2,x2,i1,hF,rfl,h⟩
 rcases m1 with _|m1
 ·cases hF
 refine X0 8 rfl (qh rfl hF ?_ ?_)<;>intro hF
 ·refine X0 8 rfl ?_
  obtain ⟨y1,hy1,hF,he1,b1,_,q1,cs2,hp1,hq1,hr1,hc2⟩:=s1.ix hF
  obtain ⟨p3,k2,p4,k3,p5,k4,rfl,s2,s3,s4⟩:=qaD hr1
  refine zxe hp1 hq1 he1 rfl (zc 0 (hc2.below h.below) rfl (zcO h hF (qpn (qeT y1 (h.oldS s2) (h.oldS s3) (h.oldS s4))) rfl fun r1 w3 S3 cs3 h hF=>?_))
  obtain ⟨p6,k5,p7,k6,p8,k7,rfl,-,-,-⟩:=qaD (h.own 0 rfl)
  obtain ⟨y2,hy2,hF⟩:=qc hF
  have he2:=qeH hy2
  replace h:=h.lrn0 1 rfl
  obtain ⟨b2,o_2,q2,cs4,hp2,hq2,-,hr3,hc3⟩:=(qkP (h.lrnO 1 rfl)).1.at hy2
  have hr4:=hr3
  obtain ⟨p9,k8,p10,k9,p11,k10,rfl,s8,s9,s10⟩:=qaD hr3
  replace h:=h.lrnAdd 1 rfl hr4
  refine zx hp2 hq2 ⟨he2.1,qU he2.2.1 (qkP (h.lrnO 1 rfl)).2⟩ rfl ?_
  replace h:=h.unlrn 1 rfl
  exact qmu qa r1 h hy2 hp2 hq2 rfl rfl rfl rfl rfl fun w4 S4 h=>X0 7 rfl (rK ⟨_,_,_,hF,rfl,h⟩ rfl)
 refine qu rfl ?_
 obtain rfl:=qb hF;replace hF:=hK1
 refine X0 5 rfl ?_
 obtain rfl:=qb hF
 exact rO 0 h rfl ⟨rfl,trivial⟩
def qkk (n:Nat) (a:qP):Option qP :=
 (qhg n a.Bp).bind fun r1 =>
 (qhg n a.Bc).bind fun r2 =>
 some (⟨a.Bf,a.Bk,a.To,a.Bn,r1,r2⟩:qP)
theorem qrb {a:qP} (ha1:GoT.R w (old w) a cs1) {r:qP} (hF:qkk n a=some r):RetV Tryz.prog 210 [GoT.v qP cs1] w r:=by
 obtain ⟨p1,k1,p2,k2,rfl,s1,s2⟩:=qag ha1
 refine zV 25 Tryz.func210 rfl fun h=>zSR (qt h rfl rfl fun w1 bb1 h=>qm qa h rfl rfl rfl fun w2 bb2 h=>zNSR (qm qa h rfl rfl rfl fun w3 bb3 h=>X1 6 2 h rfl (zs 0 h rfl fun w4 h=>X1 6 2 h rfl (zs 0 h rfl fun w5 h=>X1 6 2 h rfl (zs 0 h rfl fun w6 h=>X1 6 2 h rfl (zs 0 h rfl fun w7 h=>X1 5 2 h rfl (zcL h hF (qlu ⟨_,_,rfl,(h.oldS s1)⟩) rfl fun r1 w8 S1 p3 k3 h hF=>zp1 rfl (zs 1 h rfl fun w9 h=>X1 5 3 h rfl (zcL h hF (qlu ⟨_,_,rfl,(h.oldS s2)⟩) rfl fun r2 w10 S2 p4 k4 h hF=>zp1 rfl (zs 2 h rfl fun w11 h=>X1 4 2 h rfl (zs 3 h rfl fun w12 h=>qcw ?_)))))))))))
 obtain rfl:=qb hF
 exact qV qa (ρ:=qP) [GoT.v qP [.int .i64 a.Bf,.int .i64 a.Bk,.int .i64 a.To,.int .i64 a.Bn,.slice p3 r1.length k3,.slice p4 r2.length k4]] h ⟨⟨_,_,_,rfl,rfl,h.box 3 rfl,rfl⟩,trivial⟩ (PV.done h (qX (qxl (⟨a.Bf,a.Bk,a.To,a.Bn,r1,r2⟩:qP) h (qw (S:=fun _=>False) rfl) (qw (S:=fun _=>False) rfl) (qw (S:=fun _=>False) rfl) (qw (S:=fun _=>False) rfl) (qaz 1 h rfl) (qaz 0 h rfl) (by rfl) (by rfl) (by rfl) (by rfl) (by rfl))))
def qgk (a:(List qP)):Nat→(List qP)→Int→Option ((List qP) × Int)
 | 0,_,_=>none
 | n+1,x2,i1 =>
  bif decide (i1<(a.length:Int)) then
   (idx a i1).bind fun y1 =>
   (qkk n y1).bind fun r1 =>
   (idx x2 i1).bind fun _ =>
   qgk a n (setS x2 i1 r1) (W64 (i1+1))
  else
   some (x2,i1)
def qk1 (n:Nat) (a:(List qP)):Option (List qP) :=
 (mkS (a.length:Int) ((⟨0,0,0,0,[],[]⟩:qP):qP)).bind fun x1 =>
 (qgk a n x1 0).bind fun o=>match o with
 | (x2,_) =>
  some x2
theorem qp9 {a:(List qP)} (ha1:GoT.R w (old w) a cs1) {r:(List qP)} (hF:qk1 n a=some r):RetV Tryz.prog 185 [GoT.v (List qP) cs1] w r:=by
 obtain ⟨p1,k1,rfl,s1⟩:=ha1
 refine zV 23 Tryz.func185 rfl fun h=>X0 8 rfl ?_
 obtain ⟨x1,hx1,hF⟩:=qc hF
 obtain ⟨g1,g2,hx1⟩:=qN hx1
 refine qai qa qP h rfl rfl rfl rfl rfl rfl rfl rfl rfl g1 g2 hx1 rfl fun w1 S1 p2 h=>X0 7 rfl ?_
 obtain ⟨o1,hF,hK1⟩:=qc hF
 refine ql (rL (fun m e w'=>∃ (S2:Nat→Prop) (x2:(List qP)) (i1:Int),qgk a m x2 i1=some o1∧e=[(0,.slice p1 a.length k1),(3,.slice p2 x1.length x1.length),(4,.int .i64 i1)]∧SH w w' [Ch.own S2 (x2:List qP) [.slice p2 x1.length x1.length]]) n ⟨_,_,_,hF,rfl,h⟩ rfl ?_)
 rintro m1 e1 w2 ⟨S2,x2,i1,hF,rfl,h⟩
 rcases m1 with _|m1
 ·cases hF
 refine X0 8 rfl (qh rfl hF ?_ ?_)<;>intro hF
 ·refine X0 8 rfl ?_
  obtain ⟨y1,hy1,hF,he1,b1,_,q1,cs2,hp1,hq1,hr1,hc2⟩:=s1.ix hF
  obtain ⟨p3,k2,p4,k3,rfl,s2,s3⟩:=qag hr1
  refine zxe hp1 hq1 he1 rfl (zc 0 (hc2.below h.below) rfl (zcO h hF (qrb (qfo y1 (h.oldS s2) (h.oldS s3))) rfl fun r1 w3 S3 cs3 h hF=>?_))
  obtain ⟨p5,k4,p6,k5,rfl,-,-⟩:=qag (h.own 0 rfl)
  obtain ⟨y2,hy2,hF⟩:=qc hF
  have he2:=qeH hy2
  replace h:=h.lrn0 1 rfl
  obtain ⟨b2,o_2,q2,cs4,hp2,hq2,-,hr3,hc3⟩:=(qkP (h.lrnO 1 rfl)).1.at hy2
  have hr4:=hr3
  obtain ⟨p7,k6,p8,k7,rfl,s6,s7⟩:=qag hr3
  replace h:=h.lrnAdd 1 rfl hr4
  refine zx hp2 hq2 ⟨he2.1,qU he2.2.1 (qkP (h.lrnO 1 rfl)).2⟩ rfl ?_
  replace h:=h.unlrn 1 rfl
  exact qmu qa r1 h hy2 hp2 hq2 rfl rfl rfl rfl rfl fun w4 S4 h=>X0 7 rfl (rK ⟨_,_,_,hF,rfl,h⟩ rfl)
 refine qu rfl ?_
 obtain rfl:=qb hF;replace hF:=hK1
 refine X0 5 rfl ?_
 obtain rfl:=qb hF
 exact rO 0 h rfl ⟨rfl,trivial⟩
def qjj (n:Nat) (a:qB):Option qB :=
 (qkF n a.Be).bind fun r1 =>
 (qk1 n a.Au).bind fun r2 =>
 (qaP n a.Br).bind fun r3 =>
 some (⟨a.Bb,a.Bf,r1,r2,r3,a.Ca,a.Bu⟩:qB)
theorem qqB {a:qB} (ha1:GoT.R w (old w) a cs1) {r:qB} (hF:qjj n a=some r):RetV Tryz.prog 153 [GoT.v qB cs1] w r:=by
 obtain ⟨p1,k1,p2,k2,p3,k3,rfl,s1,s2,s3⟩:=qac ha1
 refine zV 29 Tryz.func153 rfl fun h=>zSR (qt h rfl rfl fun w1 bb1 h=>qm qa h rfl rfl rfl fun w2 bb2 h=>zNSR (qm qa h rfl rfl rfl fun w3 bb3 h=>X1 6 2 h rfl (zs 0 h rfl fun w4 h=>X1 6 2 h rfl (zs 0 h rfl fun w5 h=>X1 5 2 h rfl (zcL h hF (qqE ⟨_,_,rfl,(h.oldS s1)⟩) rfl fun r1 w6 S1 p4 k4 h hF=>zp1 rfl (zs 1 h rfl fun w7 h=>X1 5 3 h rfl (zcL h hF (qp9 ⟨_,_,rfl,(h.oldS s2)⟩) rfl fun r2 w8 S2 p5 k5 h hF=>zp1 rfl (zs 2 h rfl fun w9 h=>X1 5 4 h rfl (zcL h hF (qaI ⟨_,_,rfl,(h.oldS s3)⟩) rfl fun r3 w10 S3 p6 k6 h hF=>zp1 rfl (zs 3 h rfl fun w11 h=>X1 6 5 h rfl (zs 3 h rfl fun w12 h=>X1 6 5 h rfl (zs 3 h rfl fun w13 h=>X1 4 3 h rfl (zs 4 h rfl fun w14 h=>qcw ?_)))))))))))))
 obtain rfl:=qb hF
 exact qV qa (ρ:=qB) [GoT.v qB [.string a.Bb,.int .i64 a.Bf,.slice p4 r1.length k4,.slice p5 r2.length k5,.slice p6 r3.length k6,.int .i64 a.Ca,.int .i64 a.Bu]] h ⟨⟨_,_,_,rfl,rfl,h.box 4 rfl,rfl⟩,trivial⟩ (PV.done h (qX (qwS (⟨a.Bb,a.Bf,r1,r2,r3,a.Ca,a.Bu⟩:qB) h (qw (S:=fun _=>False) rfl) (qw (S:=fun _=>False) rfl) (qaz 2 h rfl) (qaz 1 h rfl) (qaz 0 h rfl) (qw (S:=fun _=>False) rfl) (qw (S:=fun _=>False) rfl) (by rfl) (by rfl) (by rfl) (by rfl) (by rfl) (by rfl))))
def qfP (a:(List qB)):Nat→(List qB)→Int→Option ((List qB) × Int)
 | 0,_,_=>none
 | n+1,x2,i1 =>
  bif decide (i1<(a.length:Int)) then
   (idx a i1).bind fun y1 =>
   (qjj n y1).bind fun r1 =>
   (idx x2 i1).bind fun _ =>
   qfP a n (setS x2 i1 r1) (W64 (i1+1))
  else
   some (x2,i1)
def qjT (n:Nat) (a:(List qB)):Option (List qB) :=
 (mkS (a.length:Int) ((⟨ByteArray.empty,0,[],[],[],0,0⟩:qB):qB)).bind fun x1 =>
 (qfP a n x1 0).bind fun o=>match o with
 | (x2,_) =>
  some x2
theorem qpr {a:(List qB)} (ha1:GoT.R w (old w) a cs1) {r:(List qB)} (hF:qjT n a=some r):RetV Tryz.prog 99 [GoT.v (List qB) cs1] w r:=by
 obtain ⟨p1,k1,rfl,s1⟩:=ha1
 refine zV 23 Tryz.func99 rfl fun h=>X0 8 rfl ?_
 obtain ⟨x1,hx1,hF⟩:=qc hF
 obtain ⟨g1,g2,hx1⟩:=qN hx1
 refine qai qa qB h rfl rfl rfl rfl rfl rfl rfl rfl rfl g1 g2 hx1 rfl fun w1 S1 p2 h=>X0 7 rfl ?_
 obtain ⟨o1,hF,hK1⟩:=qc hF
 refine ql (rL (fun m e w'=>∃ (S2:Nat→Prop) (x2:(List qB)) (i1:Int),qfP a m x2 i1=some o1∧e=[(0,.slice p1 a.length k1),(3,.slice p2 x1.length x1.length),(4,.int .i64 i1)]∧SH w w' [Ch.own S2 (x2:List qB) [.slice p2 x1.length x1.length]]) n ⟨_,_,_,hF,rfl,h⟩ rfl ?_)
 rintro m1 e1 w2 ⟨S2,x2,i1,hF,rfl,h⟩
 rcases m1 with _|m1
 ·cases hF
 refine X0 8 rfl (qh rfl hF ?_ ?_)<;>intro hF
 ·refine X0 8 rfl ?_
  obtain ⟨y1,hy1,hF,he1,b1,_,q1,cs2,hp1,hq1,hr1,hc2⟩:=s1.ix hF
  obtain ⟨p3,k2,p4,k3,p5,k4,rfl,s2,s3,s4⟩:=qac hr1
  refine zxe hp1 hq1 he1 rfl (zc 0 (hc2.below h.below) rfl (zcO h hF (qqB (qjV y1 (h.oldS s2) (h.oldS s3) (h.oldS s4))) rfl fun r1 w3 S3 cs3 h hF=>?_))
  obtain ⟨p6,k5,p7,k6,p8,k7,rfl,-,-,-⟩:=qac (h.own 0 rfl)
  obtain ⟨y2,hy2,hF⟩:=qc hF
  have he2:=qeH hy2
  replace h:=h.lrn0 1 rfl
  obtain ⟨b2,o_2,q2,cs4,hp2,hq2,-,hr3,hc3⟩:=(qkP (h.lrnO 1 rfl)).1.at hy2
  have hr4:=hr3
  obtain ⟨p9,k8,p10,k9,p11,k10,rfl,s8,s9,s10⟩:=qac hr3
  replace h:=h.lrnAdd 1 rfl hr4
  refine zx hp2 hq2 ⟨he2.1,qU he2.2.1 (qkP (h.lrnO 1 rfl)).2⟩ rfl ?_
  replace h:=h.unlrn 1 rfl
  exact qmu qa r1 h hy2 hp2 hq2 rfl rfl rfl rfl rfl fun w4 S4 h=>X0 7 rfl (rK ⟨_,_,_,hF,rfl,h⟩ rfl)
 refine qu rfl ?_
 obtain rfl:=qb hF;replace hF:=hK1
 refine X0 5 rfl ?_
 obtain rfl:=qb hF
 exact rO 0 h rfl ⟨rfl,trivial⟩
def qh8 (n:Nat) (a:qp):Option qp :=
 (qjT n a.Aq).bind fun r1 =>
 some (⟨r1⟩:qp)
theorem qn9 {a:qp} (ha1:GoT.R w (old w) a cs1) {r:qp} (hF:qh8 n a=some r):RetV Tryz.prog 66 [GoT.v qp cs1] w r:=by
 obtain ⟨p1,k1,rfl,s1⟩:=qbw ha1
 refine zV 9 Tryz.func66 rfl fun h=>zSR (qt h rfl rfl fun w1 bb1 h=>qm qa h rfl rfl rfl fun w2 bb2 h=>zNSR (qm qa h rfl rfl rfl fun w3 bb3 h=>X1 5 2 h rfl (zcL h hF (qpr ⟨_,_,rfl,(h.oldS s1)⟩) rfl fun r1 w4 S1 p2 k2 h hF=>zp1 rfl (zs 1 h rfl fun w5 h=>X1 4 1 h rfl (zs 2 h rfl fun w6 h=>qcw ?_)))))
 obtain rfl:=qb hF
 exact qV qa (ρ:=qp) [GoT.v qp [.slice p2 r1.length k2]] h ⟨⟨_,_,_,rfl,rfl,h.box 2 rfl,rfl⟩,trivial⟩ (PV.done h (qX (qs2 (⟨r1⟩:qp) h (qaz 0 h rfl) )))
def qfH (n:Nat) (a:qn):Option qn :=
 (qaP n a.Am).bind fun r1 =>
 some (⟨a.Bb,a.Bs,r1⟩:qn)
theorem qnE {a:qn} (ha1:GoT.R w (old w) a cs1) {r:qn} (hF:qfH n a=some r):RetV Tryz.prog 154 [GoT.v qn cs1] w r:=by
 obtain ⟨p1,k1,rfl,s1⟩:=qO ha1
 refine zV 15 Tryz.func154 rfl fun h=>zSR (qt h rfl rfl fun w1 bb1 h=>qm qa h rfl rfl rfl fun w2 bb2 h=>zNSR (qm qa h rfl rfl rfl fun w3 bb3 h=>X1 6 2 h rfl (zs 0 h rfl fun w4 h=>X1 6 2 h rfl (zs 0 h rfl fun w5 h=>X1 5 2 h rfl (zcL h hF (qaI ⟨_,_,rfl,(h.oldS s1)⟩) rfl fun r1 w6 S1 p2 k2 h hF=>zp1 rfl (zs 1 h rfl fun w7 h=>X1 4 1 h rfl (zs 2 h rfl fun w8 h=>qcw ?_)))))))
 obtain rfl:=qb hF
 exact qV qa (ρ:=qn) [GoT.v qn [.string a.Bb,.int .i64 a.Bs,.slice p2 r1.length k2]] h ⟨⟨_,_,_,rfl,rfl,h.box 2 rfl,rfl⟩,trivial⟩ (PV.done h (qX (qrZ (⟨a.Bb,a.Bs,r1⟩:qn) h (qw (S:=fun _=>False) rfl) (qw (S:=fun _=>False) rfl) (qaz 0 h rfl) (by rfl) (by rfl))))
def qdH (a:(List qn)):Nat→(List qn)→Int→Option ((List qn) × Int)
 | 0,_,_=>none
 | n+1,x2,i1 =>
  bif decide (i1<(a.length:Int)) then
   (idx a i1).bind fun y1 =>
   (qfH n y1).bind fun r1 =>
   (idx x2 i1).bind fun _ =>
   qdH a n (setS x2 i1 r1) (W64 (i1+1))
  else
   some (x2,i1)
def qgX (n:Nat) (a:(List qn)):Option (List qn) :=
 (mkS (a.length:Int) ((⟨ByteArray.empty,0,[]⟩:qn):qn)).bind fun x1 =>
 (qdH a n x1 0).bind fun o=>match o with
 | (x2,_) =>
  some x2
theorem qnp {a:(List qn)} (ha1:GoT.R w (old w) a cs1) {r:(List qn)} (hF:qgX n a=some r):RetV Tryz.prog 100 [GoT.v (List qn) cs1] w r:=by
 obtain ⟨p1,k1,rfl,s1⟩:=ha1
 refine zV 23 Tryz.func100 rfl fun h=>X0 8 rfl ?_
 obtain ⟨x1,hx1,hF⟩:=qc hF
 obtain ⟨g1,g2,hx1⟩:=qN hx1
 refine qai qa qn h rfl rfl rfl rfl rfl rfl rfl rfl rfl g1 g2 hx1 rfl fun w1 S1 p2 h=>X0 7 rfl ?_
 obtain ⟨o1,hF,hK1⟩:=qc hF
 refine ql (rL (fun m e w'=>∃ (S2:Nat→Prop) (x2:(List qn)) (i1:Int),qdH a m x2 i1=some o1∧e=[(0,.slice p1 a.length k1),(3,.slice p2 x1.length x1.length),(4,.int .i64 i1)]∧SH w w' [Ch.own S2 (x2:List qn) [.slice p2 x1.length x1.length]]) n ⟨_,_,_,hF,rfl,h⟩ rfl ?_)
 rintro m1 e1 w2 ⟨S2,x2,i1,hF,rfl,h⟩
 rcases m1 with _|m1
 ·cases hF
 refine X0 8 rfl (qh rfl hF ?_ ?_)<;>intro hF
 ·refine X0 8 rfl ?_
  obtain ⟨y1,hy1,hF,he1,b1,_,q1,cs2,hp1,hq1,hr1,hc2⟩:=s1.ix hF
  obtain ⟨p3,k2,rfl,s2⟩:=qO hr1
  refine zxe hp1 hq1 he1 rfl (zc 0 (hc2.below h.below) rfl (zcO h hF (qnE (qf0 y1 (h.oldS s2))) rfl fun r1 w3 S3 cs3 h hF=>?_))
  obtain ⟨p4,k3,rfl,-⟩:=qO (h.own 0 rfl)
  obtain ⟨y2,hy2,hF⟩:=qc hF
  have he2:=qeH hy2
  replace h:=h.lrn0 1 rfl
  obtain ⟨b2,o_2,q2,cs4,hp2,hq2,-,hr3,hc3⟩:=(qkP (h.lrnO 1 rfl)).1.at hy2
  have hr4:=hr3
  obtain ⟨p5,k4,rfl,s4⟩:=qO hr3
  replace h:=h.lrnAdd 1 rfl hr4
  refine zx hp2 hq2 ⟨he2.1,qU he2.2.1 (qkP (h.lrnO 1 rfl)).2⟩ rfl ?_
  replace h:=h.unlrn 1 rfl
  exact qmu qa r1 h hy2 hp2 hq2 rfl rfl rfl rfl rfl fun w4 S4 h=>X0 7 rfl (rK ⟨_,_,_,hF,rfl,h⟩ rfl)
 refine qu rfl ?_
 obtain rfl:=qb hF;replace hF:=hK1
 refine X0 5 rfl ?_
 obtain rfl:=qb hF
 exact rO 0 h rfl ⟨rfl,trivial⟩
def qeK (a:(List ByteArray)):Nat→(List ByteArray)→Int→Option ((List ByteArray) × Int)
 | 0,_,_=>none
 | n+1,x2,i1 =>
  bif decide (i1<(a.length:Int)) then
   (idx a i1).bind fun y1 =>
   (idx x2 i1).bind fun _ =>
   qeK a n (setS x2 i1 y1) (W64 (i1+1))
  else
   some (x2,i1)
def qie (n:Nat) (a:(List ByteArray)):Option (List ByteArray) :=
 (mkS (a.length:Int) (ByteArray.empty:ByteArray)).bind fun x1 =>
 (qeK a n x1 0).bind fun o=>match o with
 | (x2,_) =>
  some x2
theorem qn1 {a:(List ByteArray)} (ha1:GoT.R w (old w) a cs1) {r:(List ByteArray)} (hF:qie n a=some r):RetV Tryz.prog 101 [GoT.v (List ByteArray) cs1] w r:=by
 obtain ⟨p1,k1,rfl,s1⟩:=ha1
 refine zV 22 Tryz.func101 rfl fun h=>X0 8 rfl ?_
 obtain ⟨x1,hx1,hF⟩:=qc hF
 obtain ⟨g1,g2,hx1⟩:=qN hx1
 refine qai qa ByteArray h rfl rfl rfl rfl rfl rfl rfl rfl rfl g1 g2 hx1 rfl fun w1 S1 p2 h=>X0 7 rfl ?_
 obtain ⟨o1,hF,hK1⟩:=qc hF
 refine ql (rL (fun m e w'=>∃ (x2:(List ByteArray)) (i1:Int),qeK a m x2 i1=some o1∧e=[(0,.slice p1 a.length k1),(3,.slice p2 x1.length x1.length),(4,.int .i64 i1)]∧SH w w' [Ch.own S1 (x2:List ByteArray) [.slice p2 x1.length x1.length]]) n ⟨_,_,hF,rfl,h⟩ rfl ?_)
 rintro m1 e1 w2 ⟨x2,i1,hF,rfl,h⟩
 rcases m1 with _|m1
 ·cases hF
 refine X0 8 rfl (qh rfl hF ?_ ?_)<;>intro hF
 ·refine X0 8 rfl ?_
  obtain ⟨y1,hy1,hF,he1,b1,_,q1,cs2,hp1,hq1,rfl,hc2⟩:=s1.ix hF
  refine zxe hp1 hq1 he1 rfl (zc 0 (hc2.below h.below) rfl ?_)
  obtain ⟨y2,hy2,hF,he2,b2,_,q2,cs3,hp2,hq2,rfl,hc3⟩:=(h.sl 0 rfl).1.ix hF
  exact zx hp2 hq2 ⟨he2.1,qU he2.2.1 (h.sl 0 rfl).2⟩ rfl (qbu qa 0 0 y1 h rfl hy2 hp2 hq2 rfl hc3 rfl rfl rfl rfl rfl rfl rfl fun w3 h=>X0 7 rfl (rK ⟨_,_,hF,rfl,h⟩ rfl))
 refine qu rfl ?_
 obtain rfl:=qb hF;replace hF:=hK1
 refine X0 5 rfl ?_
 obtain rfl:=qb hF
 exact rO 0 h rfl ⟨rfl,trivial⟩
def qi0 (_:Nat) (a:qam):Option qam :=
 some (⟨a.Bb,a.Bv,a.Bx⟩:qam)
theorem qqH {a:qam} (ha1:GoT.R w (old w) a cs1) {r:qam} (hF:qi0 n a=some r):RetV Tryz.prog 155 [GoT.v qam cs1] w r:=by
 obtain rfl:=qbj ha1
 refine zV 14 Tryz.func155 rfl fun h=>zSR (qt h rfl rfl fun w1 bb1 h=>qm qa h rfl rfl rfl fun w2 bb2 h=>zNSR (qm qa h rfl rfl rfl fun w3 bb3 h=>X1 6 2 h rfl (zs 0 h rfl fun w4 h=>X1 6 2 h rfl (zs 0 h rfl fun w5 h=>X1 6 2 h rfl (zs 0 h rfl fun w6 h=>X1 4 0 h rfl (zs 1 h rfl fun w7 h=>qcw ?_))))))
 obtain rfl:=qb hF
 exact qV qa (ρ:=qam) [GoT.v qam (qpV a)] h ⟨⟨_,_,_,rfl,rfl,h.box 1 rfl,rfl⟩,trivial⟩ (PV.done h (qX (qw (S:=fun _=>False) (qiw (⟨a.Bb,a.Bv,a.Bx⟩:qam)))))
def qfL (a:(List qam)):Nat→(List qam)→Int→Option ((List qam) × Int)
 | 0,_,_=>none
 | n+1,x2,i1 =>
  bif decide (i1<(a.length:Int)) then
   (idx a i1).bind fun y1 =>
   (qi0 n y1).bind fun r1 =>
   (idx x2 i1).bind fun _ =>
   qfL a n (setS x2 i1 r1) (W64 (i1+1))
  else
   some (x2,i1)
def qjM (n:Nat) (a:(List qam)):Option (List qam) :=
 (mkS (a.length:Int) ((⟨ByteArray.empty,0,0⟩:qam):qam)).bind fun x1 =>
 (qfL a n x1 0).bind fun o=>match o with
 | (x2,_) =>
  some x2
theorem qps {a:(List qam)} (ha1:GoT.R w (old w) a cs1) {r:(List qam)} (hF:qjM n a=some r):RetV Tryz.prog 102 [GoT.v (List qam) cs1] w r:=by
 obtain ⟨p1,k1,rfl,s1⟩:=ha1
 refine zV 23 Tryz.func102 rfl fun h=>X0 8 rfl ?_
 obtain ⟨x1,hx1,hF⟩:=qc hF
 obtain ⟨g1,g2,hx1⟩:=qN hx1
 refine qai qa qam h rfl rfl rfl rfl rfl rfl rfl rfl rfl g1 g2 hx1 rfl fun w1 S1 p2 h=>X0 7 rfl ?_
 obtain ⟨o1,hF,hK1⟩:=qc hF
 refine ql (rL (fun m e w'=>∃ (x2:(List qam)) (i1:Int),qfL a m x2 i1=some o1∧e=[(0,.slice p1 a.length k1),(3,.slice p2 x1.length x1.length),(4,.int .i64 i1)]∧SH w w' [Ch.own S1 (x2:List qam) [.slice p2 x1.length x1.length]]) n ⟨_,_,hF,rfl,h⟩ rfl ?_)
 rintro m1 e1 w2 ⟨x2,i1,hF,rfl,h⟩
 rcases m1 with _|m1
 ·cases hF
 refine X0 8 rfl (qh rfl hF ?_ ?_)<;>intro hF
 ·refine X0 8 rfl ?_
  obtain ⟨y1,hy1,hF,he1,b1,_,q1,cs2,hp1,hq1,hr1,hc2⟩:=s1.ix hF
  obtain rfl:=qbj hr1
  refine zxe hp1 hq1 he1 rfl (zc 0 (hc2.below h.below) rfl (zcO h hF (qqH (qiw y1)) rfl fun r1 w3 S2 cs3 h hF=>?_))
  obtain rfl:=qbj (h.own 0 rfl)
  obtain ⟨y2,hy2,hF,he2,b2,_,q2,cs4,hp2,hq2,hr3,hc3⟩:=(h.sl 1 rfl).1.ix hF
  obtain rfl:=qbj hr3
  refine zx hp2 hq2 ⟨he2.1,qU he2.2.1 (h.sl 1 rfl).2⟩ rfl (qbu qa 1 0 r1 h rfl hy2 hp2 hq2 (qiw y2) hc3 rfl rfl rfl (qiw r1) rfl rfl rfl fun w4 h=>X0 7 rfl ?_)
  replace h:=h.pick [1] rfl
  exact rK ⟨_,_,hF,rfl,h⟩ rfl
 refine qu rfl ?_
 obtain rfl:=qb hF;replace hF:=hK1
 refine X0 5 rfl ?_
 obtain rfl:=qb hF
 exact rO 0 h rfl ⟨rfl,trivial⟩
def qiK (n:Nat) (a:qd):Option qd :=
 (qgX n a.Aa).bind fun r1 =>
 (qie n a.Am).bind fun r2 =>
 (qjM n a.Aj).bind fun r3 =>
 some (⟨r1,r2,r3⟩:qd)
theorem qoR {a:qd} (ha1:GoT.R w (old w) a cs1) {r:qd} (hF:qiK n a=some r):RetV Tryz.prog 67 [GoT.v qd cs1] w r:=by
 obtain ⟨p1,k1,p2,k2,p3,k3,rfl,s1,s2,s3⟩:=qat ha1
 refine zV 17 Tryz.func67 rfl fun h=>zSR (qt h rfl rfl fun w1 bb1 h=>qm qa h rfl rfl rfl fun w2 bb2 h=>zNSR (qm qa h rfl rfl rfl fun w3 bb3 h=>X1 5 2 h rfl (zcL h hF (qnp ⟨_,_,rfl,(h.oldS s1)⟩) rfl fun r1 w4 S1 p4 k4 h hF=>zp1 rfl (zs 1 h rfl fun w5 h=>X1 5 3 h rfl (zcL h hF (qn1 ⟨_,_,rfl,(h.oldS s2)⟩) rfl fun r2 w6 S2 p5 k5 h hF=>zp1 rfl (zs 2 h rfl fun w7 h=>X1 5 4 h rfl (zcL h hF (qps ⟨_,_,rfl,(h.oldS s3)⟩) rfl fun r3 w8 S3 p6 k6 h hF=>zp1 rfl (zs 3 h rfl fun w9 h=>X1 4 3 h rfl (zs 4 h rfl fun w10 h=>qcw ?_)))))))))
 obtain rfl:=qb hF
 exact qV qa (ρ:=qd) [GoT.v qd [.slice p4 r1.length k4,.slice p5 r2.length k5,.slice p6 r3.length k6]] h ⟨⟨_,_,_,rfl,rfl,h.box 4 rfl,rfl⟩,trivial⟩ (PV.done h (qX (qtK (⟨r1,r2,r3⟩:qd) h (qaz 2 h rfl) (qaz 1 h rfl) (qaz 0 h rfl) (by rfl) (by rfl))))
def qji (n:Nat) (a:qQ):Option qQ :=
 (qaP n a.Ak).bind fun r1 =>
 (qaP n a.Bw).bind fun r2 =>
 (qaP n a.Bt).bind fun r3 =>
 (qaP n a.Bl).bind fun r4 =>
 some (⟨r1,r2,r3,r4⟩:qQ)
theorem qp7 {a:qQ} (ha1:GoT.R w (old w) a cs1) {r:qQ} (hF:qji n a=some r):RetV Tryz.prog 103 [GoT.v qQ cs1] w r:=by
 obtain ⟨p1,k1,p2,k2,p3,k3,p4,k4,rfl,s1,s2,s3,s4⟩:=qaL ha1
 refine zV 21 Tryz.func103 rfl fun h=>zSR (qt h rfl rfl fun w1 bb1 h=>qm qa h rfl rfl rfl fun w2 bb2 h=>zNSR (qm qa h rfl rfl rfl fun w3 bb3 h=>X1 5 2 h rfl (zcL h hF (qaI ⟨_,_,rfl,(h.oldS s1)⟩) rfl fun r1 w4 S1 p5 k5 h hF=>zp1 rfl (zs 1 h rfl fun w5 h=>X1 5 3 h rfl (zcL h hF (qaI ⟨_,_,rfl,(h.oldS s2)⟩) rfl fun r2 w6 S2 p6 k6 h hF=>zp1 rfl (zs 2 h rfl fun w7 h=>X1 5 4 h rfl (zcL h hF (qaI ⟨_,_,rfl,(h.oldS s3)⟩) rfl fun r3 w8 S3 p7 k7 h hF=>zp1 rfl (zs 3 h rfl fun w9 h=>X1 5 5 h rfl (zcL h hF (qaI ⟨_,_,rfl,(h.oldS s4)⟩) rfl fun r4 w10 S4 p8 k8 h hF=>zp1 rfl (zs 4 h rfl fun w11 h=>X1 4 4 h rfl (zs 5 h rfl fun w12 h=>qcw ?_)))))))))))
 obtain rfl:=qb hF
 exact qV qa (ρ:=qQ) [GoT.v qQ [.slice p5 r1.length k5,.slice p6 r2.length k6,.slice p7 r3.length k7,.slice p8 r4.length k8]] h ⟨⟨_,_,_,rfl,rfl,h.box 5 rfl,rfl⟩,trivial⟩ (PV.done h (qX (qwQ (⟨r1,r2,r3,r4⟩:qQ) h (qaz 3 h rfl) (qaz 2 h rfl) (qaz 1 h rfl) (qaz 0 h rfl) (by rfl) (by rfl) (by rfl))))
def qfQ (a:(List qQ)):Nat→(List qQ)→Int→Option ((List qQ) × Int)
 | 0,_,_=>none
 | n+1,x2,i1 =>
  bif decide (i1<(a.length:Int)) then
   (idx a i1).bind fun y1 =>
   (qji n y1).bind fun r1 =>
   (idx x2 i1).bind fun _ =>
   qfQ a n (setS x2 i1 r1) (W64 (i1+1))
  else
   some (x2,i1)
def qjF (n:Nat) (a:(List qQ)):Option (List qQ) :=
 (mkS (a.length:Int) ((⟨[],[],[],[]⟩:qQ):qQ)).bind fun x1 =>
 (qfQ a n x1 0).bind fun o=>match o with
 | (x2,_) =>
  some x2
theorem qpE {a:(List qQ)} (ha1:GoT.R w (old w) a cs1) {r:(List qQ)} (hF:qjF n a=some r):RetV Tryz.prog 68 [GoT.v (List qQ) cs1] w r:=by
 obtain ⟨p1,k1,rfl,s1⟩:=ha1
 refine zV 23 Tryz.func68 rfl fun h=>X0 8 rfl ?_
 obtain ⟨x1,hx1,hF⟩:=qc hF
 obtain ⟨g1,g2,hx1⟩:=qN hx1
 refine qai qa qQ h rfl rfl rfl rfl rfl rfl rfl rfl rfl g1 g2 hx1 rfl fun w1 S1 p2 h=>X0 7 rfl ?_
 obtain ⟨o1,hF,hK1⟩:=qc hF
 refine ql (rL (fun m e w'=>∃ (S2:Nat→Prop) (x2:(List qQ)) (i1:Int),qfQ a m x2 i1=some o1∧e=[(0,.slice p1 a.length k1),(3,.slice p2 x1.length x1.length),(4,.int .i64 i1)]∧SH w w' [Ch.own S2 (x2:List qQ) [.slice p2 x1.length x1.length]]) n ⟨_,_,_,hF,rfl,h⟩ rfl ?_)
 rintro m1 e1 w2 ⟨S2,x2,i1,hF,rfl,h⟩
 rcases m1 with _|m1
 ·cases hF
 refine X0 8 rfl (qh rfl hF ?_ ?_)<;>intro hF
 ·refine X0 8 rfl ?_
  obtain ⟨y1,hy1,hF,he1,b1,_,q1,cs2,hp1,hq1,hr1,hc2⟩:=s1.ix hF
  obtain ⟨p3,k2,p4,k3,p5,k4,p6,k5,rfl,s2,s3,s4,s5⟩:=qaL hr1
  refine zxe hp1 hq1 he1 rfl (zc 0 (hc2.below h.below) rfl (zcO h hF (qp7 (qjZ y1 (h.oldS s2) (h.oldS s3) (h.oldS s4) (h.oldS s5))) rfl fun r1 w3 S3 cs3 h hF=>?_))
  obtain ⟨p7,k6,p8,k7,p9,k8,p10,k9,rfl,-,-,-,-⟩:=qaL (h.own 0 rfl)
  obtain ⟨y2,hy2,hF⟩:=qc hF
  have he2:=qeH hy2
  replace h:=h.lrn0 1 rfl
  obtain ⟨b2,o_2,q2,cs4,hp2,hq2,-,hr3,hc3⟩:=(qkP (h.lrnO 1 rfl)).1.at hy2
  have hr4:=hr3
  obtain ⟨p11,k10,p12,k11,p13,k12,p14,k13,rfl,s10,s11,s12,s13⟩:=qaL hr3
  replace h:=h.lrnAdd 1 rfl hr4
  refine zx hp2 hq2 ⟨he2.1,qU he2.2.1 (qkP (h.lrnO 1 rfl)).2⟩ rfl ?_
  replace h:=h.unlrn 1 rfl
  exact qmu qa r1 h hy2 hp2 hq2 rfl rfl rfl rfl rfl fun w4 S4 h=>X0 7 rfl (rK ⟨_,_,_,hF,rfl,h⟩ rfl)
 refine qu rfl ?_
 obtain rfl:=qb hF;replace hF:=hK1
 refine X0 5 rfl ?_
 obtain rfl:=qb hF
 exact rO 0 h rfl ⟨rfl,trivial⟩
def qjH (n:Nat) (a:qf):Option qf :=
 (qh8 n (⟨a.Av.Aq⟩:qp)).bind fun r1 =>
 (qiK n (⟨a.Ab.Aa,a.Ab.Am,a.Ab.Aj⟩:qd)).bind fun r2 =>
 (qjF n a.Ac).bind fun r3 =>
 some (⟨r1,r2,r3⟩:qf)
theorem qpL {a:qf} (ha1:GoT.R w (old w) a cs1) {r:qf} (hF:qjH n a=some r):RetV Tryz.prog 37 [GoT.v qf cs1] w r:=by
 obtain ⟨p1,k1,p2,k2,p3,k3,p4,k4,p5,k5,rfl,s1,s2,s3,s4,s5⟩:=qab ha1
 refine zV 17 Tryz.func37 rfl fun h=>zSR (qt h rfl rfl fun w1 bb1 h=>qm qa h rfl rfl rfl fun w2 bb2 h=>zNSR (qm qa h rfl rfl rfl fun w3 bb3 h=>X1 5 2 h rfl (zcO h hF (qn9 (qdR _ (h.oldS s1))) rfl fun r1 w4 S1 cs2 h hF=>?_)))
 obtain ⟨p6,k6,rfl,-⟩:=qbw (h.own 0 rfl)
 refine zp1 rfl (zs 1 h rfl fun w5 h=>X1 5 3 h rfl (zcO h hF (qoR (qao _ (h.oldS s2) (h.oldS s3) (h.oldS s4))) rfl fun r2 w6 S2 cs3 h hF=>?_))
 obtain ⟨p7,k7,p8,k8,p9,k9,rfl,-,-,-⟩:=qat (h.own 0 rfl)
 refine zp1 rfl (zs 2 h rfl fun w7 h=>X1 5 4 h rfl (zcL h hF (qpE ⟨_,_,rfl,(h.oldS s5)⟩) rfl fun r3 w8 S3 p10 k10 h hF=>zp1 rfl (zs 3 h rfl fun w9 h=>X1 4 3 h rfl (zs 4 h rfl fun w10 h=>qcw ?_))))
 obtain rfl:=qb hF
 exact qV qa (ρ:=qf) [GoT.v qf [.slice p6 r1.Aq.length k6,.slice p7 r2.Aa.length k7,.slice p8 r2.Am.length k8,.slice p9 r2.Aj.length k9,.slice p10 r3.length k10]] h ⟨⟨_,_,_,rfl,rfl,h.box 4 rfl,rfl⟩,trivial⟩ (PV.done h (qX (qve (⟨r1,r2,r3⟩:qf) h (qaz 2 h rfl) (qaz 1 h rfl) (qaz 0 h rfl) (by rfl) (by rfl))))
def qfc (a:(List Int)) (b:(List Int)):Nat→Int→Option (Flow Bool Int)
 | 0,_=>none
 | n+1,i1 =>
  bif decide (i1<(a.length:Int)) then
   (idx a i1).bind fun y1 =>
   (idx b i1).bind fun y2 =>
   bif (y1 != y2) then some (.ret false) else
   qfc a b n (W64 (i1+1))
  else
   some (.nxt i1)
def qbk (n:Nat) (a:(List Int)) (b:(List Int)):Option Bool :=
 bif ((a.length:Int) != (b.length:Int)) then some false else
 (qfc a b n 0).bind fun o=>match o with
 | .ret r=>some r
 | .nxt _ =>
  some true
theorem qbh {a:(List Int)} {b:(List Int)} (ha1:GoT.R w (old w) a cs1) (ha2:GoT.R w (old w) b cs2) {r:Bool} (hF:qbk n a b=some r):RetV Tryz.prog 15 [GoT.v (List Int) cs1,GoT.v (List Int) cs2] w r:=by
 obtain ⟨p1,k1,rfl,s1⟩:=ha1
 obtain ⟨p2,k2,rfl,s2⟩:=ha2
 refine zV 26 Tryz.func15 rfl fun h=>X0 13 rfl (qh rfl hF ?_ ?_)<;>intro hF
 ·exact X0 4 rfl (rb h hF rfl)
 refine X0 6 rfl ?_
 obtain ⟨o1,hF,hK1⟩:=qc hF
 refine ql (rL (fun m e w'=>∃ (i1:Int),qfc a b m i1=some o1∧e=[(0,.slice p1 a.length k1),(1,.slice p2 b.length k2),(5,.int .i64 i1)]∧SH w w' []) n ⟨_,hF,rfl,h⟩ rfl ?_)
 rintro m1 e1 w1 ⟨i1,hF,rfl,h⟩
 rcases m1 with _|m1
 ·cases hF
 refine X0 8 rfl (qh rfl hF ?_ ?_)<;>intro hF
 ·refine X0 4 rfl (rD (zd2 rfl ?_))
  obtain ⟨y1,hy1,hF,he1,b1,_,q1,cs3,hp1,hq1,rfl,hc3⟩:=s1.ix hF
  refine zdxe hp1 hq1 he1 rfl (zdc 0 (hc3.below h.below) rfl (zd2 rfl ?_))
  obtain ⟨y2,hy2,hF,he2,b2,_,q2,cs4,hp2,hq2,rfl,hc4⟩:=s2.ix hF
  refine zdxe hp2 hq2 he2 rfl (zdc 0 (hc4.below h.below) rfl (zd1 rfl (dN h fun w2 h=>qh rfl hF ?_ ?_)))<;>intro hF
  ·refine X0 4 rfl ?_
   obtain rfl:=qb hF;replace hF:=hK1
   exact rb h hF rfl
  exact X0 7 rfl (rK ⟨_,hF,rfl,h⟩ rfl)
 refine qu rfl ?_
 obtain rfl:=qb hF;replace hF:=hK1
 exact X0 4 rfl (rb h hF rfl)
end Go.Fw


namespace Go.Fw
open Go Go.Proofs
open Go.RowKit (Below)
set_option maxRecDepth 100000
set_option maxHeartbeats 1600000
variable {n:Nat} {w:World} {cs1 cs2 cs3 cs4 cs5 cs6 cs7 cs8 cs9:List Value}
def qkh (_:Nat) (a:qaq) (b:qaq):Option Bool :=
 bif (a.Bb.toList != b.Bb.toList) then some false else
 bif (a.Bv != b.Bv) then some false else
 bif (a.Bt != b.Bt) then some false else
 bif (!(a.Bq==b.Bq)) then some false else
 some true
theorem qq8 {a:qaq} {b:qaq} (ha1:GoT.R w (old w) a cs1) (ha2:GoT.R w (old w) b cs2) {r:Bool} (hF:qkh n a b=some r):RetV Tryz.prog 232 [GoT.v qaq cs1,GoT.v qaq cs2] w r:=by
 obtain rfl:=qbq ha1
 obtain rfl:=qbq ha2
 refine zV 25 Tryz.func232 rfl fun h=>zSR (qt h rfl rfl fun w1 bb1 h=>qt h rfl rfl fun w2 bb2 h=>X2 11 1 0 h rfl (qh rfl hF ?_ ?_))<;>intro hF
 ·exact X0 4 rfl (rb h hF rfl)
 refine X2 10 1 0 h rfl (qh rfl hF ?_ ?_)<;>intro hF
 ·exact X0 4 rfl (rb h hF rfl)
 refine X2 10 1 0 h rfl (qh rfl hF ?_ ?_)<;>intro hF
 ·exact X0 4 rfl (rb h hF rfl)
 refine X2 10 1 0 h rfl (qh rfl hF ?_ ?_)<;>intro hF
 ·exact X0 4 rfl (rb h hF rfl)
 exact X0 5 rfl (rb h hF rfl)
def qgy (a:(List qaq)) (b:(List qaq)):Nat→Int→Option (Flow Bool Int)
 | 0,_=>none
 | n+1,i1 =>
  bif decide (i1<(a.length:Int)) then
   (idx a i1).bind fun y1 =>
   (idx b i1).bind fun y2 =>
   (qkh n y1 y2).bind fun r1 =>
   bif (!r1) then some (.ret false) else
   qgy a b n (W64 (i1+1))
  else
   some (.nxt i1)
def qkC (n:Nat) (a:(List qaq)) (b:(List qaq)):Option Bool :=
 bif ((a.length:Int) != (b.length:Int)) then some false else
 (qgy a b n 0).bind fun o=>match o with
 | .ret r=>some r
 | .nxt _ =>
  some true
theorem qqw {a:(List qaq)} {b:(List qaq)} (ha1:GoT.R w (old w) a cs1) (ha2:GoT.R w (old w) b cs2) {r:Bool} (hF:qkC n a b=some r):RetV Tryz.prog 198 [GoT.v (List qaq) cs1,GoT.v (List qaq) cs2] w r:=by
 obtain ⟨p1,k1,rfl,s1⟩:=ha1
 obtain ⟨p2,k2,rfl,s2⟩:=ha2
 refine zV 27 Tryz.func198 rfl fun h=>X0 13 rfl (qh rfl hF ?_ ?_)<;>intro hF
 ·exact X0 4 rfl (rb h hF rfl)
 refine X0 6 rfl ?_
 obtain ⟨o1,hF,hK1⟩:=qc hF
 refine ql (rL (fun m e w'=>∃ (i1:Int),qgy a b m i1=some o1∧e=[(0,.slice p1 a.length k1),(1,.slice p2 b.length k2),(5,.int .i64 i1)]∧SH w w' []) n ⟨_,hF,rfl,h⟩ rfl ?_)
 rintro m1 e1 w1 ⟨i1,hF,rfl,h⟩
 rcases m1 with _|m1
 ·cases hF
 refine X0 8 rfl (qh rfl hF ?_ ?_)<;>intro hF
 ·refine X0 4 rfl (rD (zd2 rfl ?_))
  obtain ⟨y1,hy1,hF,he1,b1,_,q1,cs3,hp1,hq1,hr1,hc3⟩:=s1.ix hF
  obtain rfl:=qbq hr1
  refine zdxe hp1 hq1 he1 rfl (zdc 0 (hc3.below h.below) rfl (zd2 rfl ?_))
  obtain ⟨y2,hy2,hF,he2,b2,_,q2,cs4,hp2,hq2,hr2,hc4⟩:=s2.ix hF
  obtain rfl:=qbq hr2
  refine zdxe hp2 hq2 he2 rfl (zdc 0 (hc4.below h.below) rfl ?_)
  obtain ⟨r1,hr3,hF⟩:=qc hF
  refine qaO r1 (vsB _) (cB 232 rfl) (fun _ hb=>qq8 (qi1 y1) (qi1 y2) hr3) rfl rfl rfl rfl (zd1 rfl (dN h fun w2 h=>qh rfl hF ?_ ?_))<;>intro hF
  ·refine X0 4 rfl ?_
   obtain rfl:=qb hF;replace hF:=hK1
   exact rb h hF rfl
  exact X0 7 rfl (rK ⟨_,hF,rfl,h⟩ rfl)
 refine qu rfl ?_
 obtain rfl:=qb hF;replace hF:=hK1
 exact X0 4 rfl (rb h hF rfl)
def qhW (n:Nat) (a:qv) (b:qv):Option Bool :=
 (qbk n a.Bm b.Bm).bind fun r1 =>
 bif (!r1) then some false else
 (qbk n a.Bj b.Bj).bind fun r2 =>
 bif (!r2) then some false else
 (qbk n a.Bh b.Bh).bind fun r3 =>
 bif (!r3) then some false else
 some true
theorem qpw {a:qv} {b:qv} (ha1:GoT.R w (old w) a cs1) (ha2:GoT.R w (old w) b cs2) {r:Bool} (hF:qhW n a b=some r):RetV Tryz.prog 278 [GoT.v qv cs1,GoT.v qv cs2] w r:=by
 obtain ⟨p1,k1,p2,k2,p3,k3,rfl,s1,s2,s3⟩:=qaD ha1
 obtain ⟨p4,k4,p5,k5,p6,k6,rfl,s4,s5,s6⟩:=qaD ha2
 refine zV 23 Tryz.func278 rfl fun h=>zSR (qt h rfl rfl fun w1 bb1 h=>qt h rfl rfl fun w2 bb2 h=>X2 9 1 0 h rfl (zcB h hF (qbh ⟨_,_,rfl,(h.oldS s1)⟩ ⟨_,_,rfl,(h.oldS s4)⟩) rfl fun r1 w3 h hF=>X0 2 rfl (qh rfl hF ?_ ?_)))<;>intro hF
 ·exact X0 4 rfl (rb h hF rfl)
 refine X2 8 1 0 h rfl (zcB h hF (qbh ⟨_,_,rfl,(h.oldS s2)⟩ ⟨_,_,rfl,(h.oldS s5)⟩) rfl fun r2 w4 h hF=>X0 2 rfl (qh rfl hF ?_ ?_))<;>intro hF
 ·exact X0 4 rfl (rb h hF rfl)
 refine X2 8 1 0 h rfl (zcB h hF (qbh ⟨_,_,rfl,(h.oldS s3)⟩ ⟨_,_,rfl,(h.oldS s6)⟩) rfl fun r3 w5 h hF=>X0 2 rfl (qh rfl hF ?_ ?_))<;>intro hF
 ·exact X0 4 rfl (rb h hF rfl)
 exact X0 5 rfl (rb h hF rfl)
def qff (a:(List qv)) (b:(List qv)):Nat→Int→Option (Flow Bool Int)
 | 0,_=>none
 | n+1,i1 =>
  bif decide (i1<(a.length:Int)) then
   (idx a i1).bind fun y1 =>
   (idx b i1).bind fun y2 =>
   (qhW n y1 y2).bind fun r1 =>
   bif (!r1) then some (.ret false) else
   qff a b n (W64 (i1+1))
  else
   some (.nxt i1)
def qhb (n:Nat) (a:(List qv)) (b:(List qv)):Option Bool :=
 bif ((a.length:Int) != (b.length:Int)) then some false else
 (qff a b n 0).bind fun o=>match o with
 | .ret r=>some r
 | .nxt _ =>
  some true
theorem qld {a:(List qv)} {b:(List qv)} (ha1:GoT.R w (old w) a cs1) (ha2:GoT.R w (old w) b cs2) {r:Bool} (hF:qhb n a b=some r):RetV Tryz.prog 257 [GoT.v (List qv) cs1,GoT.v (List qv) cs2] w r:=by
 obtain ⟨p1,k1,rfl,s1⟩:=ha1
 obtain ⟨p2,k2,rfl,s2⟩:=ha2
 refine zV 27 Tryz.func257 rfl fun h=>X0 13 rfl (qh rfl hF ?_ ?_)<;>intro hF
 ·exact X0 4 rfl (rb h hF rfl)
 refine X0 6 rfl ?_
 obtain ⟨o1,hF,hK1⟩:=qc hF
 refine ql (rL (fun m e w'=>∃ (i1:Int),qff a b m i1=some o1∧e=[(0,.slice p1 a.length k1),(1,.slice p2 b.length k2),(5,.int .i64 i1)]∧SH w w' []) n ⟨_,hF,rfl,h⟩ rfl ?_)
 rintro m1 e1 w1 ⟨i1,hF,rfl,h⟩
 rcases m1 with _|m1
 ·cases hF
 refine X0 8 rfl (qh rfl hF ?_ ?_)<;>intro hF
 ·refine X0 4 rfl (rD (zd2 rfl ?_))
  obtain ⟨y1,hy1,hF,he1,b1,_,q1,cs3,hp1,hq1,hr1,hc3⟩:=s1.ix hF
  obtain ⟨p3,k3,p4,k4,p5,k5,rfl,s3,s4,s5⟩:=qaD hr1
  refine zdxe hp1 hq1 he1 rfl (zdc 0 (hc3.below h.below) rfl (zd2 rfl ?_))
  obtain ⟨y2,hy2,hF,he2,b2,_,q2,cs4,hp2,hq2,hr2,hc4⟩:=s2.ix hF
  obtain ⟨p6,k6,p7,k7,p8,k8,rfl,s6,s7,s8⟩:=qaD hr2
  refine zdxe hp2 hq2 he2 rfl (zdc 0 (hc4.below h.below) rfl ?_)
  obtain ⟨r1,hr3,hF⟩:=qc hF
  refine qaO r1 (vsB _) (cB 278 rfl) (fun _ hb=>qpw (qeT y1 ((h.ext hb).oldS s3) ((h.ext hb).oldS s4) ((h.ext hb).oldS s5)) (qeT y2 ((h.ext hb).oldS s6) ((h.ext hb).oldS s7) ((h.ext hb).oldS s8)) hr3) rfl rfl rfl rfl (zd1 rfl (dN h fun w2 h=>qh rfl hF ?_ ?_))<;>intro hF
  ·refine X0 4 rfl ?_
   obtain rfl:=qb hF;replace hF:=hK1
   exact rb h hF rfl
  exact X0 7 rfl (rK ⟨_,hF,rfl,h⟩ rfl)
 refine qu rfl ?_
 obtain rfl:=qb hF;replace hF:=hK1
 exact X0 4 rfl (rb h hF rfl)
def qkn (n:Nat) (a:qP) (b:qP):Option Bool :=
 bif (a.Bf != b.Bf) then some false else
 bif (a.Bk != b.Bk) then some false else
 bif (a.To != b.To) then some false else
 bif (a.Bn != b.Bn) then some false else
 (qhb n a.Bp b.Bp).bind fun r1 =>
 bif (!r1) then some false else
 (qhb n a.Bc b.Bc).bind fun r2 =>
 bif (!r2) then some false else
 some true
theorem qqR {a:qP} {b:qP} (ha1:GoT.R w (old w) a cs1) (ha2:GoT.R w (old w) b cs2) {r:Bool} (hF:qkn n a b=some r):RetV Tryz.prog 233 [GoT.v qP cs1,GoT.v qP cs2] w r:=by
 obtain ⟨p1,k1,p2,k2,rfl,s1,s2⟩:=qag ha1
 obtain ⟨p3,k3,p4,k4,rfl,s3,s4⟩:=qag ha2
 refine zV 37 Tryz.func233 rfl fun h=>zSR (qt h rfl rfl fun w1 bb1 h=>qt h rfl rfl fun w2 bb2 h=>X2 11 1 0 h rfl (qh rfl hF ?_ ?_))<;>intro hF
 ·exact X0 4 rfl (rb h hF rfl)
 refine X2 10 1 0 h rfl (qh rfl hF ?_ ?_)<;>intro hF
 ·exact X0 4 rfl (rb h hF rfl)
 refine X2 10 1 0 h rfl (qh rfl hF ?_ ?_)<;>intro hF
 ·exact X0 4 rfl (rb h hF rfl)
 refine X2 10 1 0 h rfl (qh rfl hF ?_ ?_)<;>intro hF
 ·exact X0 4 rfl (rb h hF rfl)
 refine X2 8 1 0 h rfl (zcB h hF (qld ⟨_,_,rfl,(h.oldS s1)⟩ ⟨_,_,rfl,(h.oldS s3)⟩) rfl fun r1 w3 h hF=>X0 2 rfl (qh rfl hF ?_ ?_))<;>intro hF
 ·exact X0 4 rfl (rb h hF rfl)
 refine X2 8 1 0 h rfl (zcB h hF (qld ⟨_,_,rfl,(h.oldS s2)⟩ ⟨_,_,rfl,(h.oldS s4)⟩) rfl fun r2 w4 h hF=>X0 2 rfl (qh rfl hF ?_ ?_))<;>intro hF
 ·exact X0 4 rfl (rb h hF rfl)
 exact X0 5 rfl (rb h hF rfl)
def qgh (a:(List qP)) (b:(List qP)):Nat→Int→Option (Flow Bool Int)
 | 0,_=>none
 | n+1,i1 =>
  bif decide (i1<(a.length:Int)) then
   (idx a i1).bind fun y1 =>
   (idx b i1).bind fun y2 =>
   (qkn n y1 y2).bind fun r1 =>
   bif (!r1) then some (.ret false) else
   qgh a b n (W64 (i1+1))
  else
   some (.nxt i1)
def qkY (n:Nat) (a:(List qP)) (b:(List qP)):Option Bool :=
 bif ((a.length:Int) != (b.length:Int)) then some false else
 (qgh a b n 0).bind fun o=>match o with
 | .ret r=>some r
 | .nxt _ =>
  some true
theorem qp3 {a:(List qP)} {b:(List qP)} (ha1:GoT.R w (old w) a cs1) (ha2:GoT.R w (old w) b cs2) {r:Bool} (hF:qkY n a b=some r):RetV Tryz.prog 199 [GoT.v (List qP) cs1,GoT.v (List qP) cs2] w r:=by
 obtain ⟨p1,k1,rfl,s1⟩:=ha1
 obtain ⟨p2,k2,rfl,s2⟩:=ha2
 refine zV 27 Tryz.func199 rfl fun h=>X0 13 rfl (qh rfl hF ?_ ?_)<;>intro hF
 ·exact X0 4 rfl (rb h hF rfl)
 refine X0 6 rfl ?_
 obtain ⟨o1,hF,hK1⟩:=qc hF
 refine ql (rL (fun m e w'=>∃ (i1:Int),qgh a b m i1=some o1∧e=[(0,.slice p1 a.length k1),(1,.slice p2 b.length k2),(5,.int .i64 i1)]∧SH w w' []) n ⟨_,hF,rfl,h⟩ rfl ?_)
 rintro m1 e1 w1 ⟨i1,hF,rfl,h⟩
 rcases m1 with _|m1
 ·cases hF
 refine X0 8 rfl (qh rfl hF ?_ ?_)<;>intro hF
 ·refine X0 4 rfl (rD (zd2 rfl ?_))
  obtain ⟨y1,hy1,hF,he1,b1,_,q1,cs3,hp1,hq1,hr1,hc3⟩:=s1.ix hF
  obtain ⟨p3,k3,p4,k4,rfl,s3,s4⟩:=qag hr1
  refine zdxe hp1 hq1 he1 rfl (zdc 0 (hc3.below h.below) rfl (zd2 rfl ?_))
  obtain ⟨y2,hy2,hF,he2,b2,_,q2,cs4,hp2,hq2,hr2,hc4⟩:=s2.ix hF
  obtain ⟨p5,k5,p6,k6,rfl,s5,s6⟩:=qag hr2
  refine zdxe hp2 hq2 he2 rfl (zdc 0 (hc4.below h.below) rfl ?_)
  obtain ⟨r1,hr3,hF⟩:=qc hF
  refine qaO r1 (vsB _) (cB 233 rfl) (fun _ hb=>qqR (qfo y1 ((h.ext hb).oldS s3) ((h.ext hb).oldS s4)) (qfo y2 ((h.ext hb).oldS s5) ((h.ext hb).oldS s6)) hr3) rfl rfl rfl rfl (zd1 rfl (dN h fun w2 h=>qh rfl hF ?_ ?_))<;>intro hF
  ·refine X0 4 rfl ?_
   obtain rfl:=qb hF;replace hF:=hK1
   exact rb h hF rfl
  exact X0 7 rfl (rK ⟨_,hF,rfl,h⟩ rfl)
 refine qu rfl ?_
 obtain rfl:=qb hF;replace hF:=hK1
 exact X0 4 rfl (rb h hF rfl)
def qjm (n:Nat) (a:qB) (b:qB):Option Bool :=
 bif (a.Bb.toList != b.Bb.toList) then some false else
 bif (a.Bf != b.Bf) then some false else
 (qkC n a.Be b.Be).bind fun r1 =>
 bif (!r1) then some false else
 (qkY n a.Au b.Au).bind fun r2 =>
 bif (!r2) then some false else
 (qbk n a.Br b.Br).bind fun r3 =>
 bif (!r3) then some false else
 bif (a.Ca != b.Ca) then some false else
 bif (a.Bu != b.Bu) then some false else
 some true
theorem qqN {a:qB} {b:qB} (ha1:GoT.R w (old w) a cs1) (ha2:GoT.R w (old w) b cs2) {r:Bool} (hF:qjm n a b=some r):RetV Tryz.prog 163 [GoT.v qB cs1,GoT.v qB cs2] w r:=by
 obtain ⟨p1,k1,p2,k2,p3,k3,rfl,s1,s2,s3⟩:=qac ha1
 obtain ⟨p4,k4,p5,k5,p6,k6,rfl,s4,s5,s6⟩:=qac ha2
 refine zV 43 Tryz.func163 rfl fun h=>zSR (qt h rfl rfl fun w1 bb1 h=>qt h rfl rfl fun w2 bb2 h=>X2 11 1 0 h rfl (qh rfl hF ?_ ?_))<;>intro hF
 ·exact X0 4 rfl (rb h hF rfl)
 refine X2 10 1 0 h rfl (qh rfl hF ?_ ?_)<;>intro hF
 ·exact X0 4 rfl (rb h hF rfl)
 refine X2 8 1 0 h rfl (zcB h hF (qqw ⟨_,_,rfl,(h.oldS s1)⟩ ⟨_,_,rfl,(h.oldS s4)⟩) rfl fun r1 w3 h hF=>X0 2 rfl (qh rfl hF ?_ ?_))<;>intro hF
 ·exact X0 4 rfl (rb h hF rfl)
 refine X2 8 1 0 h rfl (zcB h hF (qp3 ⟨_,_,rfl,(h.oldS s2)⟩ ⟨_,_,rfl,(h.oldS s5)⟩) rfl fun r2 w4 h hF=>X0 2 rfl (qh rfl hF ?_ ?_))<;>intro hF
 ·exact X0 4 rfl (rb h hF rfl)
 refine X2 8 1 0 h rfl (zcB h hF (qbh ⟨_,_,rfl,(h.oldS s3)⟩ ⟨_,_,rfl,(h.oldS s6)⟩) rfl fun r3 w5 h hF=>X0 2 rfl (qh rfl hF ?_ ?_))<;>intro hF
 ·exact X0 4 rfl (rb h hF rfl)
 refine X2 10 1 0 h rfl (qh rfl hF ?_ ?_)<;>intro hF
 ·exact X0 4 rfl (rb h hF rfl)
 refine X2 10 1 0 h rfl (qh rfl hF ?_ ?_)<;>intro hF
 ·exact X0 4 rfl (rb h hF rfl)
 exact X0 5 rfl (rb h hF rfl)
def qfK (a:(List qB)) (b:(List qB)):Nat→Int→Option (Flow Bool Int)
 | 0,_=>none
 | n+1,i1 =>
  bif decide (i1<(a.length:Int)) then
   (idx a i1).bind fun y1 =>
   (idx b i1).bind fun y2 =>
   (qjm n y1 y2).bind fun r1 =>
   bif (!r1) then some (.ret false) else
   qfK a b n (W64 (i1+1))
  else
   some (.nxt i1)
def qjK (n:Nat) (a:(List qB)) (b:(List qB)):Option Bool :=
 bif ((a.length:Int) != (b.length:Int)) then some false else
 (qfK a b n 0).bind fun o=>match o with
 | .ret r=>some r
 | .nxt _ =>
  some true
theorem qpg {a:(List qB)} {b:(List qB)} (ha1:GoT.R w (old w) a cs1) (ha2:GoT.R w (old w) b cs2) {r:Bool} (hF:qjK n a b=some r):RetV Tryz.prog 114 [GoT.v (List qB) cs1,GoT.v (List qB) cs2] w r:=by
 obtain ⟨p1,k1,rfl,s1⟩:=ha1
 obtain ⟨p2,k2,rfl,s2⟩:=ha2
 refine zV 27 Tryz.func114 rfl fun h=>X0 13 rfl (qh rfl hF ?_ ?_)<;>intro hF
 ·exact X0 4 rfl (rb h hF rfl)
 refine X0 6 rfl ?_
 obtain ⟨o1,hF,hK1⟩:=qc hF
 refine ql (rL (fun m e w'=>∃ (i1:Int),qfK a b m i1=some o1∧e=[(0,.slice p1 a.length k1),(1,.slice p2 b.length k2),(5,.int .i64 i1)]∧SH w w' []) n ⟨_,hF,rfl,h⟩ rfl ?_)
 rintro m1 e1 w1 ⟨i1,hF,rfl,h⟩
 rcases m1 with _|m1
 ·cases hF
 refine X0 8 rfl (qh rfl hF ?_ ?_)<;>intro hF
 ·refine X0 4 rfl (rD (zd2 rfl ?_))
  obtain ⟨y1,hy1,hF,he1,b1,_,q1,cs3,hp1,hq1,hr1,hc3⟩:=s1.ix hF
  obtain ⟨p3,k3,p4,k4,p5,k5,rfl,s3,s4,s5⟩:=qac hr1
  refine zdxe hp1 hq1 he1 rfl (zdc 0 (hc3.below h.below) rfl (zd2 rfl ?_))
  obtain ⟨y2,hy2,hF,he2,b2,_,q2,cs4,hp2,hq2,hr2,hc4⟩:=s2.ix hF
  obtain ⟨p6,k6,p7,k7,p8,k8,rfl,s6,s7,s8⟩:=qac hr2
  refine zdxe hp2 hq2 he2 rfl (zdc 0 (hc4.below h.below) rfl ?_)
  obtain ⟨r1,hr3,hF⟩:=qc hF
  refine qaO r1 (vsB _) (cB 163 rfl) (fun _ hb=>qqN (qjV y1 ((h.ext hb).oldS s3) ((h.ext hb).oldS s4) ((h.ext hb).oldS s5)) (qjV y2 ((h.ext hb).oldS s6) ((h.ext hb).oldS s7) ((h.ext hb).oldS s8)) hr3) rfl rfl rfl rfl (zd1 rfl (dN h fun w2 h=>qh rfl hF ?_ ?_))<;>intro hF
  ·refine X0 4 rfl ?_
   obtain rfl:=qb hF;replace hF:=hK1
   exact rb h hF rfl
  exact X0 7 rfl (rK ⟨_,hF,rfl,h⟩ rfl)
 refine qu rfl ?_
 obtain rfl:=qb hF;replace hF:=hK1
 exact X0 4 rfl (rb h hF rfl)
def qhV (n:Nat) (a:qp) (b:qp):Option Bool :=
 (qjK n a.Aq b.Aq).bind fun r1 =>
 bif (!r1) then some false else
 some true
theorem qoa {a:qp} {b:qp} (ha1:GoT.R w (old w) a cs1) (ha2:GoT.R w (old w) b cs2) {r:Bool} (hF:qhV n a b=some r):RetV Tryz.prog 73 [GoT.v qp cs1,GoT.v qp cs2] w r:=by
 obtain ⟨p1,k1,rfl,s1⟩:=qbw ha1
 obtain ⟨p2,k2,rfl,s2⟩:=qbw ha2
 refine zV 11 Tryz.func73 rfl fun h=>zSR (qt h rfl rfl fun w1 bb1 h=>qt h rfl rfl fun w2 bb2 h=>X2 9 1 0 h rfl (zcB h hF (qpg ⟨_,_,rfl,(h.oldS s1)⟩ ⟨_,_,rfl,(h.oldS s2)⟩) rfl fun r1 w3 h hF=>X0 2 rfl (qh rfl hF ?_ ?_)))<;>intro hF
 ·exact X0 4 rfl (rb h hF rfl)
 exact X0 5 rfl (rb h hF rfl)
def qfV (n:Nat) (a:qn) (b:qn):Option Bool :=
 bif (a.Bb.toList != b.Bb.toList) then some false else
 bif (a.Bs != b.Bs) then some false else
 (qbk n a.Am b.Am).bind fun r1 =>
 bif (!r1) then some false else
 some true
theorem qnB {a:qn} {b:qn} (ha1:GoT.R w (old w) a cs1) (ha2:GoT.R w (old w) b cs2) {r:Bool} (hF:qfV n a b=some r):RetV Tryz.prog 164 [GoT.v qn cs1,GoT.v qn cs2] w r:=by
 obtain ⟨p1,k1,rfl,s1⟩:=qO ha1
 obtain ⟨p2,k2,rfl,s2⟩:=qO ha2
 refine zV 21 Tryz.func164 rfl fun h=>zSR (qt h rfl rfl fun w1 bb1 h=>qt h rfl rfl fun w2 bb2 h=>X2 11 1 0 h rfl (qh rfl hF ?_ ?_))<;>intro hF
 ·exact X0 4 rfl (rb h hF rfl)
 refine X2 10 1 0 h rfl (qh rfl hF ?_ ?_)<;>intro hF
 ·exact X0 4 rfl (rb h hF rfl)
 refine X2 8 1 0 h rfl (zcB h hF (qbh ⟨_,_,rfl,(h.oldS s1)⟩ ⟨_,_,rfl,(h.oldS s2)⟩) rfl fun r1 w3 h hF=>X0 2 rfl (qh rfl hF ?_ ?_))<;>intro hF
 ·exact X0 4 rfl (rb h hF rfl)
 exact X0 5 rfl (rb h hF rfl)
def qdJ (a:(List qn)) (b:(List qn)):Nat→Int→Option (Flow Bool Int)
 | 0,_=>none
 | n+1,i1 =>
  bif decide (i1<(a.length:Int)) then
   (idx a i1).bind fun y1 =>
   (idx b i1).bind fun y2 =>
   (qfV n y1 y2).bind fun r1 =>
   bif (!r1) then some (.ret false) else
   qdJ a b n (W64 (i1+1))
  else
   some (.nxt i1)
def qgC (n:Nat) (a:(List qn)) (b:(List qn)):Option Bool :=
 bif ((a.length:Int) != (b.length:Int)) then some false else
 (qdJ a b n 0).bind fun o=>match o with
 | .ret r=>some r
 | .nxt _ =>
  some true
theorem qnr {a:(List qn)} {b:(List qn)} (ha1:GoT.R w (old w) a cs1) (ha2:GoT.R w (old w) b cs2) {r:Bool} (hF:qgC n a b=some r):RetV Tryz.prog 115 [GoT.v (List qn) cs1,GoT.v (List qn) cs2] w r:=by
 obtain ⟨p1,k1,rfl,s1⟩:=ha1
 obtain ⟨p2,k2,rfl,s2⟩:=ha2
 refine zV 27 Tryz.func115 rfl fun h=>X0 13 rfl (qh rfl hF ?_ ?_)<;>intro hF
 ·exact X0 4 rfl (rb h hF rfl)
 refine X0 6 rfl ?_
 obtain ⟨o1,hF,hK1⟩:=qc hF
 refine ql (rL (fun m e w'=>∃ (i1:Int),qdJ a b m i1=some o1∧e=[(0,.slice p1 a.length k1),(1,.slice p2 b.length k2),(5,.int .i64 i1)]∧SH w w' []) n ⟨_,hF,rfl,h⟩ rfl ?_)
 rintro m1 e1 w1 ⟨i1,hF,rfl,h⟩
 rcases m1 with _|m1
 ·cases hF
 refine X0 8 rfl (qh rfl hF ?_ ?_)<;>intro hF
 ·refine X0 4 rfl (rD (zd2 rfl ?_))
  obtain ⟨y1,hy1,hF,he1,b1,_,q1,cs3,hp1,hq1,hr1,hc3⟩:=s1.ix hF
  obtain ⟨p3,k3,rfl,s3⟩:=qO hr1
  refine zdxe hp1 hq1 he1 rfl (zdc 0 (hc3.below h.below) rfl (zd2 rfl ?_))
  obtain ⟨y2,hy2,hF,he2,b2,_,q2,cs4,hp2,hq2,hr2,hc4⟩:=s2.ix hF
  obtain ⟨p4,k4,rfl,s4⟩:=qO hr2
  refine zdxe hp2 hq2 he2 rfl (zdc 0 (hc4.below h.below) rfl ?_)
  obtain ⟨r1,hr3,hF⟩:=qc hF
  refine qaO r1 (vsB _) (cB 164 rfl) (fun _ hb=>qnB (qf0 y1 ((h.ext hb).oldS s3)) (qf0 y2 ((h.ext hb).oldS s4)) hr3) rfl rfl rfl rfl (zd1 rfl (dN h fun w2 h=>qh rfl hF ?_ ?_))<;>intro hF
  ·refine X0 4 rfl ?_
   obtain rfl:=qb hF;replace hF:=hK1
   exact rb h hF rfl
  exact X0 7 rfl (rK ⟨_,hF,rfl,h⟩ rfl)
 refine qu rfl ?_
 obtain rfl:=qb hF;replace hF:=hK1
 exact X0 4 rfl (rb h hF rfl)
def qeB (a:(List ByteArray)) (b:(List ByteArray)):Nat→Int→Option (Flow Bool Int)
 | 0,_=>none
 | n+1,i1 =>
  bif decide (i1<(a.length:Int)) then
   (idx a i1).bind fun y1 =>
   (idx b i1).bind fun y2 =>
   bif (y1.toList != y2.toList) then some (.ret false) else
   qeB a b n (W64 (i1+1))
  else
   some (.nxt i1)
def qif (n:Nat) (a:(List ByteArray)) (b:(List ByteArray)):Option Bool :=
 bif ((a.length:Int) != (b.length:Int)) then some false else
 (qeB a b n 0).bind fun o=>match o with
 | .ret r=>some r
 | .nxt _ =>
  some true
theorem qor {a:(List ByteArray)} {b:(List ByteArray)} (ha1:GoT.R w (old w) a cs1) (ha2:GoT.R w (old w) b cs2) {r:Bool} (hF:qif n a b=some r):RetV Tryz.prog 116 [GoT.v (List ByteArray) cs1,GoT.v (List ByteArray) cs2] w r:=by
 obtain ⟨p1,k1,rfl,s1⟩:=ha1
 obtain ⟨p2,k2,rfl,s2⟩:=ha2
 refine zV 26 Tryz.func116 rfl fun h=>X0 13 rfl (qh rfl hF ?_ ?_)<;>intro hF
 ·exact X0 4 rfl (rb h hF rfl)
 refine X0 6 rfl ?_
 obtain ⟨o1,hF,hK1⟩:=qc hF
 refine ql (rL (fun m e w'=>∃ (i1:Int),qeB a b m i1=some o1∧e=[(0,.slice p1 a.length k1),(1,.slice p2 b.length k2),(5,.int .i64 i1)]∧SH w w' []) n ⟨_,hF,rfl,h⟩ rfl ?_)
 rintro m1 e1 w1 ⟨i1,hF,rfl,h⟩
 rcases m1 with _|m1
 ·cases hF
 refine X0 8 rfl (qh rfl hF ?_ ?_)<;>intro hF
 ·refine X0 4 rfl (rD (zd2 rfl ?_))
  obtain ⟨y1,hy1,hF,he1,b1,_,q1,cs3,hp1,hq1,rfl,hc3⟩:=s1.ix hF
  refine zdxe hp1 hq1 he1 rfl (zdc 0 (hc3.below h.below) rfl (zd2 rfl ?_))
  obtain ⟨y2,hy2,hF,he2,b2,_,q2,cs4,hp2,hq2,rfl,hc4⟩:=s2.ix hF
  refine zdxe hp2 hq2 he2 rfl (zdc 0 (hc4.below h.below) rfl (zd1 rfl (dN h fun w2 h=>qh rfl hF ?_ ?_)))<;>intro hF
  ·refine X0 4 rfl ?_
   obtain rfl:=qb hF;replace hF:=hK1
   exact rb h hF rfl
  exact X0 7 rfl (rK ⟨_,hF,rfl,h⟩ rfl)
 refine qu rfl ?_
 obtain rfl:=qb hF;replace hF:=hK1
 exact X0 4 rfl (rb h hF rfl)
def qi2 (_:Nat) (a:qam) (b:qam):Option Bool :=
 bif (a.Bb.toList != b.Bb.toList) then some false else
 bif (a.Bv != b.Bv) then some false else
 bif (a.Bx != b.Bx) then some false else
 some true
theorem qqJ {a:qam} {b:qam} (ha1:GoT.R w (old w) a cs1) (ha2:GoT.R w (old w) b cs2) {r:Bool} (hF:qi2 n a b=some r):RetV Tryz.prog 165 [GoT.v qam cs1,GoT.v qam cs2] w r:=by
 obtain rfl:=qbj ha1
 obtain rfl:=qbj ha2
 refine zV 20 Tryz.func165 rfl fun h=>zSR (qt h rfl rfl fun w1 bb1 h=>qt h rfl rfl fun w2 bb2 h=>X2 11 1 0 h rfl (qh rfl hF ?_ ?_))<;>intro hF
 ·exact X0 4 rfl (rb h hF rfl)
 refine X2 10 1 0 h rfl (qh rfl hF ?_ ?_)<;>intro hF
 ·exact X0 4 rfl (rb h hF rfl)
 refine X2 10 1 0 h rfl (qh rfl hF ?_ ?_)<;>intro hF
 ·exact X0 4 rfl (rb h hF rfl)
 exact X0 5 rfl (rb h hF rfl)
def qfO (a:(List qam)) (b:(List qam)):Nat→Int→Option (Flow Bool Int)
 | 0,_=>none
 | n+1,i1 =>
  bif decide (i1<(a.length:Int)) then
   (idx a i1).bind fun y1 =>
   (idx b i1).bind fun y2 =>
   (qi2 n y1 y2).bind fun r1 =>
   bif (!r1) then some (.ret false) else
   qfO a b n (W64 (i1+1))
  else
   some (.nxt i1)
def qjO (n:Nat) (a:(List qam)) (b:(List qam)):Option Bool :=
 bif ((a.length:Int) != (b.length:Int)) then some false else
 (qfO a b n 0).bind fun o=>match o with
 | .ret r=>some r
 | .nxt _ =>
  some true
theorem qpI {a:(List qam)} {b:(List qam)} (ha1:GoT.R w (old w) a cs1) (ha2:GoT.R w (old w) b cs2) {r:Bool} (hF:qjO n a b=some r):RetV Tryz.prog 117 [GoT.v (List qam) cs1,GoT.v (List qam) cs2] w r:=by
 obtain ⟨p1,k1,rfl,s1⟩:=ha1
 obtain ⟨p2,k2,rfl,s2⟩:=ha2
 refine zV 27 Tryz.func117 rfl fun h=>X0 13 rfl (qh rfl hF ?_ ?_)<;>intro hF
 ·exact X0 4 rfl (rb h hF rfl)
 refine X0 6 rfl ?_
 obtain ⟨o1,hF,hK1⟩:=qc hF
 refine ql (rL (fun m e w'=>∃ (i1:Int),qfO a b m i1=some o1∧e=[(0,.slice p1 a.length k1),(1,.slice p2 b.length k2),(5,.int .i64 i1)]∧SH w w' []) n ⟨_,hF,rfl,h⟩ rfl ?_)
 rintro m1 e1 w1 ⟨i1,hF,rfl,h⟩
 rcases m1 with _|m1
 ·cases hF
 refine X0 8 rfl (qh rfl hF ?_ ?_)<;>intro hF
 ·refine X0 4 rfl (rD (zd2 rfl ?_))
  obtain ⟨y1,hy1,hF,he1,b1,_,q1,cs3,hp1,hq1,hr1,hc3⟩:=s1.ix hF
  obtain rfl:=qbj hr1
  refine zdxe hp1 hq1 he1 rfl (zdc 0 (hc3.below h.below) rfl (zd2 rfl ?_))
  obtain ⟨y2,hy2,hF,he2,b2,_,q2,cs4,hp2,hq2,hr2,hc4⟩:=s2.ix hF
  obtain rfl:=qbj hr2
  refine zdxe hp2 hq2 he2 rfl (zdc 0 (hc4.below h.below) rfl ?_)
  obtain ⟨r1,hr3,hF⟩:=qc hF
  refine qaO r1 (vsB _) (cB 165 rfl) (fun _ hb=>qqJ (qiw y1) (qiw y2) hr3) rfl rfl rfl rfl (zd1 rfl (dN h fun w2 h=>qh rfl hF ?_ ?_))<;>intro hF
  ·refine X0 4 rfl ?_
   obtain rfl:=qb hF;replace hF:=hK1
   exact rb h hF rfl
  exact X0 7 rfl (rK ⟨_,hF,rfl,h⟩ rfl)
 refine qu rfl ?_
 obtain rfl:=qb hF;replace hF:=hK1
 exact X0 4 rfl (rb h hF rfl)
def qiM (n:Nat) (a:qd) (b:qd):Option Bool :=
 (qgC n a.Aa b.Aa).bind fun r1 =>
 bif (!r1) then some false else
 (qif n a.Am b.Am).bind fun r2 =>
 bif (!r2) then some false else
 (qjO n a.Aj b.Aj).bind fun r3 =>
 bif (!r3) then some false else
 some true
theorem qoK {a:qd} {b:qd} (ha1:GoT.R w (old w) a cs1) (ha2:GoT.R w (old w) b cs2) {r:Bool} (hF:qiM n a b=some r):RetV Tryz.prog 74 [GoT.v qd cs1,GoT.v qd cs2] w r:=by
 obtain ⟨p1,k1,p2,k2,p3,k3,rfl,s1,s2,s3⟩:=qat ha1
 obtain ⟨p4,k4,p5,k5,p6,k6,rfl,s4,s5,s6⟩:=qat ha2
 refine zV 23 Tryz.func74 rfl fun h=>zSR (qt h rfl rfl fun w1 bb1 h=>qt h rfl rfl fun w2 bb2 h=>X2 9 1 0 h rfl (zcB h hF (qnr ⟨_,_,rfl,(h.oldS s1)⟩ ⟨_,_,rfl,(h.oldS s4)⟩) rfl fun r1 w3 h hF=>X0 2 rfl (qh rfl hF ?_ ?_)))<;>intro hF
 ·exact X0 4 rfl (rb h hF rfl)
 refine X2 8 1 0 h rfl (zcB h hF (qor ⟨_,_,rfl,(h.oldS s2)⟩ ⟨_,_,rfl,(h.oldS s5)⟩) rfl fun r2 w4 h hF=>X0 2 rfl (qh rfl hF ?_ ?_))<;>intro hF
 ·exact X0 4 rfl (rb h hF rfl)
 refine X2 8 1 0 h rfl (zcB h hF (qpI ⟨_,_,rfl,(h.oldS s3)⟩ ⟨_,_,rfl,(h.oldS s6)⟩) rfl fun r3 w5 h hF=>X0 2 rfl (qh rfl hF ?_ ?_))<;>intro hF
 ·exact X0 4 rfl (rb h hF rfl)
 exact X0 5 rfl (rb h hF rfl)
def qiZ (n:Nat) (a:qQ) (b:qQ):Option Bool :=
 (qbk n a.Ak b.Ak).bind fun r1 =>
 bif (!r1) then some false else
 (qbk n a.Bw b.Bw).bind fun r2 =>
 bif (!r2) then some false else
 (qbk n a.Bt b.Bt).bind fun r3 =>
 bif (!r3) then some false else
 (qbk n a.Bl b.Bl).bind fun r4 =>
 bif (!r4) then some false else
 some true
theorem qqm {a:qQ} {b:qQ} (ha1:GoT.R w (old w) a cs1) (ha2:GoT.R w (old w) b cs2) {r:Bool} (hF:qiZ n a b=some r):RetV Tryz.prog 118 [GoT.v qQ cs1,GoT.v qQ cs2] w r:=by
 obtain ⟨p1,k1,p2,k2,p3,k3,p4,k4,rfl,s1,s2,s3,s4⟩:=qaL ha1
 obtain ⟨p5,k5,p6,k6,p7,k7,p8,k8,rfl,s5,s6,s7,s8⟩:=qaL ha2
 refine zV 29 Tryz.func118 rfl fun h=>zSR (qt h rfl rfl fun w1 bb1 h=>qt h rfl rfl fun w2 bb2 h=>X2 9 1 0 h rfl (zcB h hF (qbh ⟨_,_,rfl,(h.oldS s1)⟩ ⟨_,_,rfl,(h.oldS s5)⟩) rfl fun r1 w3 h hF=>X0 2 rfl (qh rfl hF ?_ ?_)))<;>intro hF
 ·exact X0 4 rfl (rb h hF rfl)
 refine X2 8 1 0 h rfl (zcB h hF (qbh ⟨_,_,rfl,(h.oldS s2)⟩ ⟨_,_,rfl,(h.oldS s6)⟩) rfl fun r2 w4 h hF=>X0 2 rfl (qh rfl hF ?_ ?_))<;>intro hF
 ·exact X0 4 rfl (rb h hF rfl)
 refine X2 8 1 0 h rfl (zcB h hF (qbh ⟨_,_,rfl,(h.oldS s3)⟩ ⟨_,_,rfl,(h.oldS s7)⟩) rfl fun r3 w5 h hF=>X0 2 rfl (qh rfl hF ?_ ?_))<;>intro hF
 ·exact X0 4 rfl (rb h hF rfl)
 refine X2 8 1 0 h rfl (zcB h hF (qbh ⟨_,_,rfl,(h.oldS s4)⟩ ⟨_,_,rfl,(h.oldS s8)⟩) rfl fun r4 w6 h hF=>X0 2 rfl (qh rfl hF ?_ ?_))<;>intro hF
 ·exact X0 4 rfl (rb h hF rfl)
 exact X0 5 rfl (rb h hF rfl)
def qfJ (a:(List qQ)) (b:(List qQ)):Nat→Int→Option (Flow Bool Int)
 | 0,_=>none
 | n+1,i1 =>
  bif decide (i1<(a.length:Int)) then
   (idx a i1).bind fun y1 =>
   (idx b i1).bind fun y2 =>
   (qiZ n y1 y2).bind fun r1 =>
   bif (!r1) then some (.ret false) else
   qfJ a b n (W64 (i1+1))
  else
   some (.nxt i1)
def qjw (n:Nat) (a:(List qQ)) (b:(List qQ)):Option Bool :=
 bif ((a.length:Int) != (b.length:Int)) then some false else
 (qfJ a b n 0).bind fun o=>match o with
 | .ret r=>some r
 | .nxt _ =>
  some true
theorem qpz {a:(List qQ)} {b:(List qQ)} (ha1:GoT.R w (old w) a cs1) (ha2:GoT.R w (old w) b cs2) {r:Bool} (hF:qjw n a b=some r):RetV Tryz.prog 75 [GoT.v (List qQ) cs1,GoT.v (List qQ) cs2] w r:=by
 obtain ⟨p1,k1,rfl,s1⟩:=ha1
 obtain ⟨p2,k2,rfl,s2⟩:=ha2
 refine zV 27 Tryz.func75 rfl fun h=>X0 13 rfl (qh rfl hF ?_ ?_)<;>intro hF
 ·exact X0 4 rfl (rb h hF rfl)
 refine X0 6 rfl ?_
 obtain ⟨o1,hF,hK1⟩:=qc hF
 refine ql (rL (fun m e w'=>∃ (i1:Int),qfJ a b m i1=some o1∧e=[(0,.slice p1 a.length k1),(1,.slice p2 b.length k2),(5,.int .i64 i1)]∧SH w w' []) n ⟨_,hF,rfl,h⟩ rfl ?_)
 rintro m1 e1 w1 ⟨i1,hF,rfl,h⟩
 rcases m1 with _|m1
 ·cases hF
 refine X0 8 rfl (qh rfl hF ?_ ?_)<;>intro hF
 ·refine X0 4 rfl (rD (zd2 rfl ?_))
  obtain ⟨y1,hy1,hF,he1,b1,_,q1,cs3,hp1,hq1,hr1,hc3⟩:=s1.ix hF
  obtain ⟨p3,k3,p4,k4,p5,k5,p6,k6,rfl,s3,s4,s5,s6⟩:=qaL hr1
  refine zdxe hp1 hq1 he1 rfl (zdc 0 (hc3.below h.below) rfl (zd2 rfl ?_))
  obtain ⟨y2,hy2,hF,he2,b2,_,q2,cs4,hp2,hq2,hr2,hc4⟩:=s2.ix hF
  obtain ⟨p7,k7,p8,k8,p9,k9,p10,k10,rfl,s7,s8,s9,s10⟩:=qaL hr2
  refine zdxe hp2 hq2 he2 rfl (zdc 0 (hc4.below h.below) rfl ?_)
  obtain ⟨r1,hr3,hF⟩:=qc hF
  refine qaO r1 (vsB _) (cB 118 rfl) (fun _ hb=>qqm (qjZ y1 ((h.ext hb).oldS s3) ((h.ext hb).oldS s4) ((h.ext hb).oldS s5) ((h.ext hb).oldS s6)) (qjZ y2 ((h.ext hb).oldS s7) ((h.ext hb).oldS s8) ((h.ext hb).oldS s9) ((h.ext hb).oldS s10)) hr3) rfl rfl rfl rfl (zd1 rfl (dN h fun w2 h=>qh rfl hF ?_ ?_))<;>intro hF
  ·refine X0 4 rfl ?_
   obtain rfl:=qb hF;replace hF:=hK1
   exact rb h hF rfl
  exact X0 7 rfl (rK ⟨_,hF,rfl,h⟩ rfl)
 refine qu rfl ?_
 obtain rfl:=qb hF;replace hF:=hK1
 exact X0 4 rfl (rb h hF rfl)
def qjR (n:Nat) (a:qf) (b:qf):Option Bool :=
 (qhV n (⟨a.Av.Aq⟩:qp) (⟨b.Av.Aq⟩:qp)).bind fun r1 =>
 bif (!r1) then some false else
 (qiM n (⟨a.Ab.Aa,a.Ab.Am,a.Ab.Aj⟩:qd) (⟨b.Ab.Aa,b.Ab.Am,b.Ab.Aj⟩:qd)).bind fun r2 =>
 bif (!r2) then some false else
 (qjw n a.Ac b.Ac).bind fun r3 =>
 bif (!r3) then some false else
 some true
theorem qpC {a:qf} {b:qf} (ha1:GoT.R w (old w) a cs1) (ha2:GoT.R w (old w) b cs2) {r:Bool} (hF:qjR n a b=some r):RetV Tryz.prog 43 [GoT.v qf cs1,GoT.v qf cs2] w r:=by
 obtain ⟨p1,k1,p2,k2,p3,k3,p4,k4,p5,k5,rfl,s1,s2,s3,s4,s5⟩:=qab ha1
 obtain ⟨p6,k6,p7,k7,p8,k8,p9,k9,p10,k10,rfl,s6,s7,s8,s9,s10⟩:=qab ha2
 refine zV 23 Tryz.func43 rfl fun h=>zSR (qt h rfl rfl fun w1 bb1 h=>qt h rfl rfl fun w2 bb2 h=>X2 9 1 0 h rfl (zcB h hF (qoa (qdR _ (h.oldS s1)) (qdR _ (h.oldS s6))) rfl fun r1 w3 h hF=>X0 2 rfl (qh rfl hF ?_ ?_)))<;>intro hF
 ·exact X0 4 rfl (rb h hF rfl)
 refine X2 8 1 0 h rfl (zcB h hF (qoK (qao _ (h.oldS s2) (h.oldS s3) (h.oldS s4)) (qao _ (h.oldS s7) (h.oldS s8) (h.oldS s9))) rfl fun r2 w4 h hF=>X0 2 rfl (qh rfl hF ?_ ?_))<;>intro hF
 ·exact X0 4 rfl (rb h hF rfl)
 refine X2 8 1 0 h rfl (zcB h hF (qpz ⟨_,_,rfl,(h.oldS s5)⟩ ⟨_,_,rfl,(h.oldS s10)⟩) rfl fun r3 w5 h hF=>X0 2 rfl (qh rfl hF ?_ ?_))<;>intro hF
 ·exact X0 4 rfl (rb h hF rfl)
 exact X0 5 rfl (rb h hF rfl)
def qcD (i1:Int) (y1:qn):Nat→(List Tl05Place)→Int→Option ((List Tl05Place) × Int)
 | 0,_,_=>none
 | n+1,x2,i2 =>
  bif decide (i2<(y1.Am.length:Int)) then
   (idx y1.Am i2).bind fun y2 =>
   (appS x2 ([(⟨i1,i2,y2,(i2==(W64 ((y1.Am.length:Int)-1)))⟩:Tl05Place)]:List Tl05Place)).bind fun x3 =>
   qcD i1 y1 n x3 (W64 (i2+1))
  else
   some (x2,i2)
def qcs (a_0:qd):Nat→(List Tl05Place)→Int→Option ((List Tl05Place) × Int)
 | 0,_,_=>none
 | n+1,x4,i3 =>
  bif decide (i3<(a_0.Aj.length:Int)) then
   (idx a_0.Aj i3).bind fun y3 =>
   (idx a_0.Aj i3).bind fun y4 =>
   (appS x4 ([(⟨(-1),i3,y3.Bx,(y4.Bv==1)⟩:Tl05Place)]:List Tl05Place)).bind fun x5 =>
   qcs a_0 n x5 (W64 (i3+1))
  else
   some (x4,i3)
def qcB (a_0:qd):Nat→(List Tl05Place)→Int→Option ((List Tl05Place) × Int)
 | 0,_,_=>none
 | n+1,x1,i1 =>
  bif decide (i1<(a_0.Aa.length:Int)) then
   (idx a_0.Aa i1).bind fun y1 =>
   (qcD i1 y1 n x1 0).bind fun o=>match o with
   | (x2,_) =>
    qcB a_0 n x2 (W64 (i1+1))
  else
   some (x1,i1)
def qb8 (n:Nat) (a_0:qd):Option (List Tl05Place) :=
 (qcB a_0 n ([]:List Tl05Place) 0).bind fun o=>match o with
 | (x1,_) =>
  (qcs a_0 n x1 0).bind fun o=>match o with
  | (x4,_) =>
   some x4
theorem qb3 {a_0:qd} (ha1:GoT.R w (old w) a_0 cs1) {r:(List Tl05Place)} (hF:qb8 n a_0=some r):RetV Tryz.prog 152 [GoT.v qd cs1] w r:=by
 obtain ⟨p1,k1,p2,k2,p3,k3,rfl,s1,s2,s3⟩:=qat ha1
 refine zV 69 Tryz.func152 rfl fun h=>zSR (qt h rfl rfl fun w1 bb1 h=>X0 4 rfl (qK qa [] _ ([]:List Tl05Place) h rfl rfl rfl rfl rfl rfl rfl rfl rfl trivial rfl fun w2 p4 S1 h=>X0 7 rfl ?_))
 obtain ⟨o1,hF,hK1⟩:=qc hF
 refine ql (rL (fun m e w'=>∃ (S2:Nat→Prop) (p5:Option Addr) (ln1:Nat) (k4:Nat) (x1:(List Tl05Place)) (i1:Int),qcB a_0 m x1 i1=some o1∧e=[(1,.pointer (some ⟨bb1,0,none⟩)),(3,.slice p5 ln1 k4),(4,.int .i64 i1)]∧SH w w' [Ch.own S2 (x1:List Tl05Place) [.slice p5 ln1 k4],Ch.box bb1 (qaH a_0 p1 p2 p3 k1 k2 k3) 48]) n ⟨_,_,_,_,_,_,hF,rfl,h⟩ rfl ?_)
 rintro m1 e1 w3 ⟨S2,p5,ln1,k4,x1,i1,hF,rfl,h⟩
 obtain rfl:=(h.sl 0 rfl).2
 rcases m1 with _|m1
 ·cases hF
 refine X1 9 1 h rfl (qh rfl hF ?_ ?_)<;>intro hF
 ·refine X1 8 1 h rfl ?_
  obtain ⟨y1,hy1,hF,he1,b1,_,q1,cs2,hp1,hq1,hr1,hc2⟩:=s1.ix hF
  obtain ⟨p6,k5,rfl,s4⟩:=qO hr1
  refine zxe hp1 hq1 he1 rfl (zp1 rfl (zc 2 (hc2.below h.below) rfl (X0 6 rfl ?_)))
  obtain ⟨o2,hF,hK2⟩:=qc hF
  refine ql (rL (fun m e w'=>∃ (S3:Nat→Prop) (p7:Option Addr) (ln2:Nat) (k6:Nat) (x2:(List Tl05Place)) (i2:Int),qcD i1 y1 m x2 i2=some o2∧e=[(1,.pointer (some ⟨bb1,0,none⟩)),(3,.slice p7 ln2 k6),(4,.int .i64 i1),(5,.slice p6 y1.Am.length k5),(6,.int .i64 i2)]∧SH w w' [Ch.own S3 (x2:List Tl05Place) [.slice p7 ln2 k6],Ch.box bb1 (qaH a_0 p1 p2 p3 k1 k2 k3) 48]) m1 ⟨_,_,_,_,_,_,hF,rfl,h⟩ rfl ?_)
  rintro m2 e2 w4 ⟨S3,p7,ln2,k6,x2,i2,hF,rfl,h⟩
  obtain rfl:=(h.sl 0 rfl).2
  rcases m2 with _|m2
  ·cases hF
  refine X0 8 rfl (qh rfl hF ?_ ?_)<;>intro hF
  ·refine X0 9 rfl ?_
   obtain ⟨y2,hy2,hF,he2,b2,_,q2,cs3,hp2,hq2,rfl,hc4⟩:=s4.ix hF
   refine zxe hp2 hq2 he2 rfl (zc 0 (hc4.below h.below) rfl (zp5 rfl (r_v (qY qa [0,1,2,3] [.tmp 29,.tmp 30,.tmp 34,.tmp 39] rfl rfl rfl rfl rfl rfl rfl rfl) rfl (qK qa [.tmp 40] _ ([(⟨i1,i2,y2,(i2==(W64 ((y1.Am.length:Int)-1)))⟩:Tl05Place)]:List Tl05Place) h rfl rfl rfl rfl rfl rfl rfl rfl rfl ⟨(qeY (⟨i1,i2,y2,(i2==(W64 ((y1.Am.length:Int)-1)))⟩:Tl05Place)),trivial⟩ rfl fun w5 p8 S4 h=>?_))))
   obtain ⟨x3,hx1,hF⟩:=qc hF
   obtain ⟨g1,hx1⟩:=qay hx1
   refine qcE qa 1 h rfl (h.sl 0 rfl).1 (h.sl 0 rfl).2 rfl rfl rfl rfl rfl rfl rfl rfl rfl g1 hx1 rfl fun w6 p9 k7 S5 h=>X0 8 rfl ?_
   replace h:=h.pick [1,2] rfl
   exact rK ⟨_,_,_,_,_,_,hF,rfl,h⟩ rfl
  refine qu rfl ?_
  obtain rfl:=qb hF;replace hF:=hK2
  exact X0 6 rfl (rK ⟨_,_,_,_,_,_,hF,rfl,h⟩ rfl)
 refine qu rfl ?_
 obtain rfl:=qb hF;replace hF:=hK1
 refine X0 5 rfl ?_
 obtain ⟨o3,hF,hK3⟩:=qc hF
 refine ql (rL (fun m e w'=>∃ (S6:Nat→Prop) (p10:Option Addr) (ln3:Nat) (k8:Nat) (x4:(List Tl05Place)) (i3:Int),qcs a_0 m x4 i3=some o3∧e=[(1,.pointer (some ⟨bb1,0,none⟩)),(3,.slice p10 ln3 k8),(7,.int .i64 i3)]∧SH w w' [Ch.own S6 (x4:List Tl05Place) [.slice p10 ln3 k8],Ch.box bb1 (qaH a_0 p1 p2 p3 k1 k2 k3) 48]) n ⟨_,_,_,_,_,_,hF,rfl,h⟩ rfl ?_)
 rintro m3 e3 w7 ⟨S6,p10,ln3,k8,x4,i3,hF,rfl,h⟩
 obtain rfl:=(h.sl 0 rfl).2
 rcases m3 with _|m3
 ·cases hF
 refine X1 9 1 h rfl (qh rfl hF ?_ ?_)<;>intro hF
 ·refine zKSB (rA [] [1] h rfl fun w8 h=>M1 31 [0,1,2,3,4] 0 (h.pick [1] rfl) rfl ?_)
  obtain ⟨y3,hy3,hF,he3,b3,_,q3,cs4,hp3,hq3,hr3,hc6⟩:=s3.ix hF
  obtain rfl:=qbj hr3
  refine Ae 5 63 hp3 hq3 he3 (h.pick [1] rfl) rfl (M0 127 [6] (h.pick [1] rfl) rfl (Al 7 255 2 hc6 (h.pick [1] rfl) rfl (M1 2047 [8,9,10] 0 (h.pick [1] rfl) rfl ?_)))
  obtain ⟨y4,hy4,hF,he4,b4,_,q4,cs5,hp4,hq4,hr4,hc7⟩:=s3.ix hF
  obtain rfl:=qbj hr4
  refine Ae 11 4095 hp4 hq4 he4 (h.pick [1] rfl) rfl (M0 8191 [12] (h.pick [1] rfl) rfl (Al 13 16383 1 hc7 (h.pick [1] rfl) rfl (M0 32767 [14] (h.pick [1] rfl) rfl (Aw 15 65535 (fun w' hw=>qY qa [0,1,2,3] [.const (.int .i64 (-1)),.tmp 51,.tmp 57,.tmp 64] rfl rfl rfl rfl rfl rfl rfl rfl) (h.pick [1] rfl) rfl ?_))))
  refine Ao 16 131071 rfl (qK qa [.tmp 65] _ ([(⟨(-1),i3,y3.Bx,(y4.Bv==1)⟩:Tl05Place)]:List Tl05Place) h rfl rfl rfl rfl rfl rfl rfl rfl rfl ⟨(qeY (⟨(-1),i3,y3.Bx,(y4.Bv==1)⟩:Tl05Place)),trivial⟩ rfl fun w9 p11 S7 h=>Ag (h.pick [2] rfl) (Ao 17 262143 rfl ?_))
  obtain ⟨x5,hx2,hF⟩:=qc hF
  obtain ⟨g2,hx2⟩:=qay hx2
  refine qcE qa 1 h rfl (h.sl 0 rfl).1 (h.sl 0 rfl).2 rfl rfl rfl rfl rfl rfl rfl rfl rfl g2 hx2 rfl fun w10 p12 k9 S8 h=>G0 524287 [18] (h.pick [2] rfl) rfl (Ad (X0 6 rfl ?_))
  replace h:=h.pick [1,2] rfl
  exact rK ⟨_,_,_,_,_,_,hF,rfl,h⟩ rfl
 refine qu rfl ?_
 obtain rfl:=qb hF;replace hF:=hK3
 refine X0 5 rfl ?_
 obtain rfl:=qb hF
 exact rO 0 h rfl ⟨rfl,trivial⟩
def qch (net:Int) (r1:(List Tl05Place)):Nat→(List Int)→Int→Option ((List Int) × Int)
 | 0,_,_=>none
 | n+1,x1,i1 =>
  bif decide (i1<(r1.length:Int)) then
   (
    (idx r1 i1).bind fun y1 =>
    bif (y1.net==net) then
     (idx r1 i1).bind fun y2 =>
     some (!y2.drives)
    else
     some false).bind fun b1 =>
   bif b1 then
    (appS x1 ([i1]:List Int)).bind fun x2 =>
    qch net r1 n x2 (W64 (i1+1))
   else
    qch net r1 n x1 (W64 (i1+1))
  else
   some (x1,i1)
def qf1 (n:Nat) (d:qd) (net:Int):Option (List Int) :=
 (qb8 n d).bind fun r1 =>
 (qch net r1 n ([]:List Int) 0).bind fun o=>match o with
 | (x1,_) =>
  some x1
theorem qiB {d:qd} {net:Int} (ha1:GoT.R w (old w) d cs1) {r:(List Int)} (hF:qf1 n d net=some r):RetV Tryz.prog 95 [GoT.v qd cs1,.int .i64 net] w r:=by
 obtain ⟨p1,k1,p2,k2,p3,k3,rfl,s1,s2,s3⟩:=qat ha1
 refine zV 37 Tryz.func95 rfl fun h=>zSR (qt h rfl rfl fun w1 bb1 h=>X0 4 rfl (qK qa [] _ ([]:List Int) h rfl rfl rfl rfl rfl rfl rfl rfl rfl trivial rfl fun w2 p4 S1 h=>X1 5 1 h rfl (zcL h hF (qb3 (h.old ha1)) rfl fun r1 w3 S2 p5 k4 h hF=>X0 7 rfl ?_)))
 obtain ⟨o1,hF,hK1⟩:=qc hF
 refine ql ?_
 replace h:=h.pick [0,1] rfl
 refine rL (fun m e w'=>∃ (S3:Nat→Prop) (p6:Option Addr) (ln1:Nat) (k5:Nat) (x1:(List Int)) (i1:Int),qch net r1 m x1 i1=some o1∧e=[(1,.int .i64 net),(5,.slice p6 ln1 k5),(6,.slice p5 r1.length k4),(7,.int .i64 i1)]∧SH w w' [Ch.own S2 (r1:List Tl05Place) [.slice p5 r1.length k4],Ch.own S3 (x1:List Int) [.slice p6 ln1 k5]]) n ⟨_,_,_,_,_,_,hF,rfl,h⟩ rfl ?_
 rintro m1 e1 w4 ⟨S3,p6,ln1,k5,x1,i1,hF,rfl,h⟩
 obtain rfl:=(h.sl 1 rfl).2
 rcases m1 with _|m1
 ·cases hF
 refine X0 8 rfl (qh rfl hF ?_ ?_)<;>intro hF
 ·refine X0 4 rfl ?_
  obtain ⟨KF1,hKF1,o2,hF,hK2⟩:=bindE hF
  refine qbm (fun e w'=>∃ (b1:Bool),KF1 b1=some o1∧e=[(1,.int .i64 net),(5,.slice p6 x1.length k5),(6,.slice p5 r1.length k4),(7,.int .i64 i1),(31,.bool b1)]∧SH w w' [Ch.own S2 (r1:List Tl05Place) [.slice p5 r1.length k4],Ch.own S3 (x1:List Int) [.slice p6 x1.length k5]]) ?_ ?_
  ·refine X0 3 rfl ?_
   obtain ⟨y1,hy1,hF,he1,b2,_,q1,cs2,hp1,hq1,hr2,hc3⟩:=(h.sl 0 rfl).1.ix hF
   obtain rfl:=qbK hr2
   refine zx hp1 hq1 ⟨he1.1,qU he1.2.1 (h.sl 0 rfl).2⟩ rfl (zp1 rfl (zc 2 hc3 rfl (zp3 rfl (qi (t:=24) hF rfl ?_ ?_))))<;>intro hF
   ·refine X0 5 rfl ?_
    obtain ⟨y2,hy2,hF,he2,b3,_,q2,cs3,hp2,hq2,hr3,hc4⟩:=(h.sl 0 rfl).1.ix hF
    obtain rfl:=qbK hr3
    refine zx hp2 hq2 ⟨he2.1,qU he2.2.1 (h.sl 0 rfl).2⟩ rfl (X0 3 rfl (zc 3 hc4 rfl (X0 4 rfl ?_)))
    obtain rfl:=qb hF
    exact rG ⟨_,hK2,rfl,h⟩ rfl
   refine X0 8 rfl ?_
   obtain rfl:=qb hF
   exact rG ⟨_,hK2,rfl,h⟩ rfl
  rintro e2 w7 ⟨b1,hF,rfl,h⟩
  subst hKF1
  refine qh rfl hF ?_ ?_<;>intro hF
  ·refine X0 3 rfl (qK qa [.tmp 33] _ ([i1]:List Int) h rfl rfl rfl rfl rfl rfl rfl rfl rfl ⟨rfl,trivial⟩ rfl fun w5 p7 S4 h=>?_)
   obtain ⟨x2,hx1,hF⟩:=qc hF
   obtain ⟨g1,hx1⟩:=qay hx1
   refine qcE qa 2 h rfl (h.sl 0 rfl).1 (h.sl 0 rfl).2 rfl rfl rfl rfl rfl rfl rfl rfl rfl g1 hx1 rfl fun w6 p8 k6 S5 h=>X0 8 rfl ?_
   replace h:=h.pick [1,2] rfl
   exact rK ⟨_,_,_,_,_,_,hF,rfl,h⟩ rfl
  exact X0 7 rfl (rK ⟨_,_,_,_,_,_,hF,rfl,h⟩ rfl)
 refine qu rfl ?_
 obtain rfl:=qb hF;replace hF:=hK1
 refine X0 5 rfl ?_
 obtain rfl:=qb hF
 exact rO 1 h rfl ⟨rfl,trivial⟩
def qap (_:Nat) (a_n:Int) (low:Int) (high:Int):Option Bool :=
 bif decide (a_n ≥ low) then some (decide (a_n≤high)) else
 some false
theorem qae {a_n:Int} {low:Int} {high:Int}  {r:Bool} (hF:qap n a_n low high=some r):RetV Tryz.prog 63 [.int .i64 a_n,.int .i64 low,.int .i64 high] w r:=by
 refine zV 15 Tryz.func63 rfl fun h=>X0 10 rfl (qi (t:=10) hF rfl ?_ ?_)<;>intro hF
 ·exact X0 9 rfl (rb h hF rfl)
 exact X0 6 rfl (rb h hF rfl)
def qdw (s:ByteArray):Nat→Int→Option (Flow Bool Int)
 | 0,_=>none
 | n+1,i1 =>
  bif decide (i1<(s.size:Int)) then
   (
    (atS s i1).bind fun y3 =>
    bif decide (y3 ≥ 97) then
     (atS s i1).bind fun y4 =>
     some (decide (y4≤122))
    else
     some false).bind fun b1 =>
   (
    (atS s i1).bind fun y1 =>
    bif decide (y1 ≥ 48) then
     (atS s i1).bind fun y2 =>
     some (decide (y2≤57))
    else
     some false).bind fun b2 =>
   bif (!b1) then
    bif b2 then
     bif (!(decide (i1 > 0))) then some (.ret false) else
     qdw s n (W64 (i1+1))
    else
     some (.ret false)
   else
    qdw s n (W64 (i1+1))
  else
   some (.nxt i1)
def qfw (n:Nat) (s:ByteArray):Option Bool :=
 (qdw s n 0).bind fun o=>match o with
 | .ret r=>some r
 | .nxt _ =>
  bif decide ((s.size:Int) ≥ 1) then some (decide ((s.size:Int)≤8)) else
  some false
theorem qhp {s:ByteArray}  {r:Bool} (hF:qfw n s=some r):RetV Tryz.prog 179 [.string s] w r:=by
 refine zV 50 Tryz.func179 rfl fun h=>X0 9 rfl ?_
 obtain ⟨o1,hF,hK1⟩:=qc hF
 refine ql (rL (fun m e w'=>∃ (i1:Int),qdw s m i1=some o1∧e=[(0,.string s),(3,.int .i64 i1)]∧SH w w' []) n ⟨_,hF,rfl,h⟩ rfl ?_)
 rintro m1 e1 w1 ⟨i1,hF,rfl,h⟩
 rcases m1 with _|m1
 ·cases hF
 refine X0 8 rfl (qh rfl hF ?_ ?_)<;>intro hF
 ·refine X0 4 rfl ?_
  obtain ⟨KF2,hKF2,o3,hF,hK3⟩:=bindE hF
  refine qbm (fun e w'=>∃ (b1:Bool),KF2 b1=some o1∧e=[(0,.string s),(3,.int .i64 i1),(4,.bool b1)]∧SH w w' []) ?_ ?_
  ·refine X0 3 rfl ?_
   obtain ⟨y3,hx3,hF⟩:=qc hF
   have g3:=qmH hx3
   refine r_v (qmV qa g3 rfl rfl rfl rfl) rfl (zp2 rfl (qi (t:=16) hF rfl ?_ ?_))<;>intro hF
   ·refine X0 5 rfl ?_
    obtain ⟨y4,hx4,hF⟩:=qc hF
    have g4:=qmH hx4
    refine r_v (qmV qa g4 rfl rfl rfl rfl) rfl (X0 5 rfl ?_)
    obtain rfl:=qb hF
    exact rG ⟨_,hK3,rfl,h⟩ rfl
   refine X0 7 rfl ?_
   obtain rfl:=qb hF
   exact rG ⟨_,hK3,rfl,h⟩ rfl
  rintro e3 w3 ⟨b1,hF,rfl,h⟩
  subst hKF2
  refine qcv ?_
  obtain ⟨KF1,hKF1,o2,hF,hK2⟩:=bindE hF
  refine qbm (fun e w'=>∃ (b2:Bool),KF1 b2=some o1∧e=[(0,.string s),(3,.int .i64 i1),(4,.bool b1),(5,.bool b2)]∧SH w w' []) ?_ ?_
  ·refine X0 3 rfl ?_
   obtain ⟨y1,hx1,hF⟩:=qc hF
   have g1:=qmH hx1
   refine r_v (qmV qa g1 rfl rfl rfl rfl) rfl (zp2 rfl (qi (t:=26) hF rfl ?_ ?_))<;>intro hF
   ·refine X0 5 rfl ?_
    obtain ⟨y2,hx2,hF⟩:=qc hF
    have g2:=qmH hx2
    refine r_v (qmV qa g2 rfl rfl rfl rfl) rfl (X0 5 rfl ?_)
    obtain rfl:=qb hF
    exact rG ⟨_,hK2,rfl,h⟩ rfl
   refine X0 7 rfl ?_
   obtain rfl:=qb hF
   exact rG ⟨_,hK2,rfl,h⟩ rfl
  rintro e2 w2 ⟨b2,hF,rfl,h⟩
  subst hKF1
  refine X0 5 rfl (qi (t:=34) hF rfl ?_ ?_)<;>intro hF
  ·refine X0 4 rfl (qi (t:=36) hF rfl ?_ ?_)<;>intro hF
   ·refine X0 10 rfl (qh rfl hF ?_ ?_)<;>intro hF
    ·refine X0 4 rfl ?_
     obtain rfl:=qb hF;replace hF:=hK1
     exact rb h hF rfl
    exact X0 7 rfl (rK ⟨_,hF,rfl,h⟩ rfl)
   refine X0 8 rfl (qbW rfl rfl (X0 4 rfl ?_))
   obtain rfl:=qb hF;replace hF:=hK1
   exact rb h hF rfl
  exact X0 8 rfl (qbS rfl rfl (X0 7 rfl (rK ⟨_,hF,rfl,h⟩ rfl)))
 refine qu rfl ?_
 obtain rfl:=qb hF;replace hF:=hK1
 refine X0 6 rfl (qi (t:=45) hF rfl ?_ ?_)<;>intro hF
 ·exact X0 9 rfl (rb h hF rfl)
 exact X0 6 rfl (rb h hF rfl)
def qer (a_0:qB) (i2:Int) (y1:qaq):Nat→Int→Option (Flow (Int × Bool) Int)
 | 0,_=>none
 | n+1,i3 =>
  bif decide (i3<i2) then
   (idx a_0.Be i3).bind fun y2 =>
   bif (y2.Bb.toList==y1.Bb.toList) then some (.ret (0,false)) else
   qer a_0 i2 y1 n (W64 (i3+1))
  else
   some (.nxt i3)
def qcR (a_0:qB):Nat→Int→Int→Option (Flow (Int × Bool) (Int × Int))
 | 0,_,_=>none
 | n+1,i1,i2 =>
  bif decide (i2<(a_0.Be.length:Int)) then
   (idx a_0.Be i2).bind fun y1 =>
   (qer a_0 i2 y1 n 0).bind fun o=>match o with
   | .ret r=>some (.ret r)
   | .nxt _ =>
    (
     (qfw n y1.Bb).bind fun r1 =>
     bif (!r1) then some true else
     (qap n y1.Bt 0 500).bind fun r2 =>
     some (!r2)).bind fun b4 =>
    bif b4 then some (.ret (0,false)) else
    (
     bif (i2==(W64 ((a_0.Be.length:Int)-1))) then
      bif (y1.Bv != 2) then some true else
      bif (y1.Bt != 0) then some true else
      bif y1.Bq then some true else
      bif decide (i2<(W64 ((a_0.Be.length:Int)-1))) then some (y1.Bv != 1) else
      some false
     else
      bif decide (i2<(W64 ((a_0.Be.length:Int)-1))) then some (y1.Bv != 1) else
      some false).bind fun b5 =>
    bif b5 then some (.ret (0,false)) else
    bif y1.Bq then qcR a_0 n (W64 (i1+1)) (W64 (i2+1)) else
    qcR a_0 n i1 (W64 (i2+1))
  else
   some (.nxt (i1,i2))
def qjA (n:Nat) (a_0:qB):Option (Int × Bool) :=
 (
  bif decide ((a_0.Be.length:Int)<2) then some true else
  some (decide ((a_0.Be.length:Int) > 5))).bind fun b1 =>
 bif b1 then some (0,false) else
 (qcR a_0 n 0 0).bind fun o=>match o with
 | .ret r=>some r
 | .nxt (i1,_) =>
  some (i1,true)
theorem qpf {a_0:qB} (ha1:GoT.R w (old w) a_0 cs1) {r:(Int × Bool)} (hF:qjA n a_0=some r):RetV Tryz.prog 260 [GoT.v qB cs1] w r:=by
 obtain ⟨p1,k1,p2,k2,p3,k3,rfl,s1,s2,s3⟩:=qac ha1
 refine zV 86 Tryz.func260 rfl fun h=>zSR (qt h rfl rfl fun w1 bb1 h=>X1 12 0 h rfl ?_)
 obtain ⟨KF3,hKF3,o5,hF,hK5⟩:=bindE hF
 refine qbm (fun e w'=>∃ (b1:Bool),KF3 b1=some r∧e=[(1,.pointer (some ⟨bb1,0,none⟩)),(4,.int .i64 (a_0.Be.length:Int)),(17,.bool b1)]∧SH w w' [Ch.box bb1 (qdQ a_0 p1 p2 p3 k1 k2 k3) 168]) ?_ ?_
 ·refine X0 4 rfl (qi (t:=14) hF rfl ?_ ?_)<;>intro hF
  ·refine X0 4 rfl ?_
   obtain rfl:=qb hF
   exact rG ⟨_,hK5,rfl,h⟩ rfl
  refine X0 6 rfl ?_
  obtain rfl:=qb hF
  exact rG ⟨_,hK5,rfl,h⟩ rfl
 rintro e5 w11 ⟨b1,hF,rfl,h⟩
 subst hKF3
 refine qh rfl hF ?_ ?_<;>intro hF
 ·refine X0 5 rfl ?_
  obtain rfl:=qb hF
  exact qV qa (ρ:=(Int × Bool)) [GoT.v Int [.int .i64 0],GoT.v Bool [.bool false]] h ⟨rfl,rfl,trivial⟩ (PV.done h (qaa h (qw (S:=fun _=>False) rfl) (qX (qw (S:=fun _=>False) rfl)) (by rfl)))
 refine X0 10 rfl ?_
 obtain ⟨o1,hF,hK1⟩:=qc hF
 refine ql (rL (fun m e w'=>∃ (i1:Int) (i2:Int),qcR a_0 m i1 i2=some o1∧e=[(1,.pointer (some ⟨bb1,0,none⟩)),(4,.int .i64 (a_0.Be.length:Int)),(5,.int .i64 i1),(6,.int .i64 i2)]∧SH w w' [Ch.box bb1 (qdQ a_0 p1 p2 p3 k1 k2 k3) 168]) n ⟨_,_,hF,rfl,h⟩ rfl ?_)
 rintro m1 e1 w2 ⟨i1,i2,hF,rfl,h⟩
 rcases m1 with _|m1
 ·cases hF
 refine X0 7 rfl (qh rfl hF ?_ ?_)<;>intro hF
 ·refine X1 8 0 h rfl ?_
  obtain ⟨y1,hy1,hF,he1,b2,_,q1,cs2,hp1,hq1,hr1,hc3⟩:=s1.ix hF
  obtain rfl:=qbq hr1
  refine zxe hp1 hq1 he1 rfl (zc 0 (hc3.below h.below) rfl (qm qa h rfl rfl rfl fun w3 bb2 h=>zs 0 h rfl fun w4 h=>X0 6 rfl ?_))
  obtain ⟨o2,hF,hK2⟩:=qc hF
  refine ql (rL (fun m e w'=>∃ (i3:Int),qer a_0 i2 y1 m i3=some o2∧e=[(1,.pointer (some ⟨bb1,0,none⟩)),(4,.int .i64 (a_0.Be.length:Int)),(5,.int .i64 i1),(6,.int .i64 i2),(7,.pointer (some ⟨bb2,0,none⟩)),(8,.int .i64 i3)]∧SH w w' [Ch.box bb2 (qou y1) 294,Ch.box bb1 (qdQ a_0 p1 p2 p3 k1 k2 k3) 168]) m1 ⟨_,hF,rfl,h⟩ rfl ?_)
  rintro m2 e2 w5 ⟨i3,hF,rfl,h⟩
  rcases m2 with _|m2
  ·cases hF
  refine X0 7 rfl (qh rfl hF ?_ ?_)<;>intro hF
  ·refine X0 4 rfl (rD (Y1 2 1 h rfl ?_))
   refine zd1 rfl ?_
   obtain ⟨y2,hy2,hF,he2,b3,_,q2,cs3,hp2,hq2,hr2,hc5⟩:=s1.ix hF
   obtain rfl:=qbq hr2
   refine zdxe hp2 hq2 he2 rfl (zd1 rfl (zdc 0 (hc5.below h.below) rfl (Y1 2 0 h rfl ?_)))
   refine zd1 rfl (dN h fun w6 h=>qh rfl hF ?_ ?_)<;>intro hF
   ·refine X0 5 rfl ?_
    obtain rfl:=qb hF;replace hF:=hK2
    obtain rfl:=qb hF;replace hF:=hK1
    obtain rfl:=qb hF
    exact qV qa (ρ:=(Int × Bool)) [GoT.v Int [.int .i64 0],GoT.v Bool [.bool false]] h ⟨rfl,rfl,trivial⟩ (PV.done h (qaa h (qw (S:=fun _=>False) rfl) (qX (qw (S:=fun _=>False) rfl)) (by rfl)))
   exact X0 7 rfl (rK ⟨_,hF,rfl,h⟩ rfl)
  refine qu rfl ?_
  obtain rfl:=qb hF;replace hF:=hK2
  refine zSS ?_
  obtain ⟨KF2,hKF2,o4,hF,hK4⟩:=bindE hF
  refine qbm (fun e w'=>∃ (b4:Bool),KF2 b4=some o1∧e=[(1,.pointer (some ⟨bb1,0,none⟩)),(4,.int .i64 (a_0.Be.length:Int)),(5,.int .i64 i1),(6,.int .i64 i2),(7,.pointer (some ⟨bb2,0,none⟩)),(51,.bool b4)]∧SH w w' [Ch.box bb2 (qou y1) 294,Ch.box bb1 (qdQ a_0 p1 p2 p3 k1 k2 k3) 168]) ?_ ?_
  ·refine X1 3 0 h rfl (zcB h hF qhp rfl fun r1 w8 h hF=>zp2 rfl (qi (t:=46) hF rfl ?_ ?_))<;>intro hF
   ·refine X0 6 rfl ?_
    obtain rfl:=qb hF
    exact rG ⟨_,hK4,rfl,h⟩ rfl
   refine X1 5 0 h rfl (zcB h hF qae rfl fun r2 w9 h hF=>X0 4 rfl ?_)
   obtain rfl:=qb hF
   exact rG ⟨_,hK4,rfl,h⟩ rfl
  rintro e4 w10 ⟨b4,hF,rfl,h⟩
  subst hKF2
  refine qh rfl hF ?_ ?_<;>intro hF
  ·refine X0 5 rfl ?_
   obtain rfl:=qb hF;replace hF:=hK1
   obtain rfl:=qb hF
   exact qV qa (ρ:=(Int × Bool)) [GoT.v Int [.int .i64 0],GoT.v Bool [.bool false]] h ⟨rfl,rfl,trivial⟩ (PV.done h (qaa h (qw (S:=fun _=>False) rfl) (qX (qw (S:=fun _=>False) rfl)) (by rfl)))
  refine zKSS ?_
  obtain ⟨KF1,hKF1,o3,hF,hK3⟩:=bindE hF
  refine qbm (fun e w'=>∃ (b5:Bool),KF1 b5=some o1∧e=[(1,.pointer (some ⟨bb1,0,none⟩)),(4,.int .i64 (a_0.Be.length:Int)),(5,.int .i64 i1),(6,.int .i64 i2),(7,.pointer (some ⟨bb2,0,none⟩)),(80,.bool b5)]∧SH w w' [Ch.box bb2 (qou y1) 294,Ch.box bb1 (qdQ a_0 p1 p2 p3 k1 k2 k3) 168]) ?_ ?_
  ·refine X0 6 rfl (qi (t:=56) hF rfl ?_ ?_)<;>intro hF
   ·refine X1 8 0 h rfl (qi (t:=60) hF rfl ?_ ?_)<;>intro hF
    ·refine X0 24 rfl ?_
     obtain rfl:=qb hF
     exact rG ⟨_,hK3,rfl,h⟩ rfl
    refine X1 10 0 h rfl (qi (t:=65) hF rfl ?_ ?_)<;>intro hF
    ·refine X0 17 rfl ?_
     obtain rfl:=qb hF
     exact rG ⟨_,hK3,rfl,h⟩ rfl
    refine X1 8 0 h rfl (qi (t:=70) hF rfl ?_ ?_)<;>intro hF
    ·refine X0 11 rfl ?_
     obtain rfl:=qb hF
     exact rG ⟨_,hK3,rfl,h⟩ rfl
    refine X0 10 rfl (qi (t:=75) hF rfl ?_ ?_)<;>intro hF
    ·refine X1 10 0 h rfl ?_
     obtain rfl:=qb hF
     exact rG ⟨_,hK3,rfl,h⟩ rfl
    refine X0 7 rfl ?_
    obtain rfl:=qb hF
    exact rG ⟨_,hK3,rfl,h⟩ rfl
   refine X0 24 rfl (qi (t:=75) hF rfl ?_ ?_)<;>intro hF
   ·refine X1 10 0 h rfl ?_
    obtain rfl:=qb hF
    exact rG ⟨_,hK3,rfl,h⟩ rfl
   refine X0 7 rfl ?_
   obtain rfl:=qb hF
   exact rG ⟨_,hK3,rfl,h⟩ rfl
  rintro e3 w7 ⟨b5,hF,rfl,h⟩
  subst hKF1
  refine qh rfl hF ?_ ?_<;>intro hF
  ·refine X0 5 rfl ?_
   obtain rfl:=qb hF;replace hF:=hK1
   obtain rfl:=qb hF
   exact qV qa (ρ:=(Int × Bool)) [GoT.v Int [.int .i64 0],GoT.v Bool [.bool false]] h ⟨rfl,rfl,trivial⟩ (PV.done h (qaa h (qw (S:=fun _=>False) rfl) (qX (qw (S:=fun _=>False) rfl)) (by rfl)))
  refine X1 6 0 h rfl (qh rfl hF ?_ ?_)<;>intro hF
  ·refine X0 11 rfl ?_
   replace h:=h.pick [1] rfl
   exact rK ⟨_,_,hF,rfl,h⟩ rfl
  refine X0 7 rfl ?_
  replace h:=h.pick [1] rfl
  exact rK ⟨_,_,hF,rfl,h⟩ rfl
 refine qu rfl ?_
 obtain rfl:=qb hF;replace hF:=hK1
 refine X0 6 rfl ?_
 obtain rfl:=qb hF
 exact qV qa (ρ:=(Int × Bool)) [GoT.v Int [.int .i64 i1],GoT.v Bool [.bool true]] h ⟨rfl,rfl,trivial⟩ (PV.done h (qaa h (qw (S:=fun _=>False) rfl) (qX (qw (S:=fun _=>False) rfl)) (by rfl)))
def qdz (list:(List Int)):Nat→Int→Option (Flow Bool Int)
 | 0,_=>none
 | n+1,i1 =>
  bif decide (i1<(list.length:Int)) then
   (idx list i1).bind fun y1 =>
   (qap n y1 0 100000).bind fun r1 =>
   bif (!r1) then some (.ret false) else
   bif decide (i1 > 0) then
    (idx list (W64 (i1-1))).bind fun y2 =>
    (idx list i1).bind fun y3 =>
    bif decide (y2 ≥ y3) then some (.ret false) else
    qdz list n (W64 (i1+1))
   else
    qdz list n (W64 (i1+1))
  else
   some (.nxt i1)
def qhN (n:Nat) (list:(List Int)):Option Bool :=
 (qdz list n 0).bind fun o=>match o with
 | .ret r=>some r
 | .nxt _ =>
  bif decide ((list.length:Int) ≥ 1) then some (decide ((list.length:Int)≤4)) else
  some false
theorem qma {list:(List Int)} (ha1:GoT.R w (old w) list cs1) {r:Bool} (hF:qhN n list=some r):RetV Tryz.prog 310 [GoT.v (List Int) cs1] w r:=by
 obtain ⟨p1,k1,rfl,s1⟩:=ha1
 refine zV 40 Tryz.func310 rfl fun h=>X0 9 rfl ?_
 obtain ⟨o1,hF,hK1⟩:=qc hF
 refine ql (rL (fun m e w'=>∃ (i1:Int),qdz list m i1=some o1∧e=[(0,.slice p1 list.length k1),(3,.int .i64 i1)]∧SH w w' []) n ⟨_,hF,rfl,h⟩ rfl ?_)
 rintro m1 e1 w1 ⟨i1,hF,rfl,h⟩
 rcases m1 with _|m1
 ·cases hF
 refine X0 8 rfl (qh rfl hF ?_ ?_)<;>intro hF
 ·refine X0 4 rfl (rD (zd2 rfl ?_))
  obtain ⟨y1,hy1,hF,he1,b1,_,q1,cs2,hp1,hq1,rfl,hc2⟩:=s1.ix hF
  refine zdxe hp1 hq1 he1 rfl (zdc 0 (hc2.below h.below) rfl ?_)
  obtain ⟨r1,hr2,hF⟩:=qc hF
  refine qaO r1 (vsB _) (cB 63 rfl) (fun _ hb=>qae  hr2) rfl rfl rfl rfl (zd2 rfl (qaJ (t:=16) hF rfl ?_ ?_))<;>intro hF
  ·refine Y0 15 rfl (dN h fun w2 h=>qbW rfl rfl (X0 4 rfl ?_))
   obtain rfl:=qb hF;replace hF:=hK1
   exact rb h hF rfl
  refine Y0 6 rfl (qaJ (t:=19) hF rfl ?_ ?_)<;>intro hF
  ·refine Y0 7 rfl ?_
   obtain ⟨y2,hy2,hF,he2,b2,_,q2,cs3,hp2,hq2,rfl,hc3⟩:=s1.ix hF
   refine zdxe hp2 hq2 he2 rfl (Y0 1 rfl (zdc 0 (hc3.below h.below) rfl (Y0 5 rfl ?_)))
   obtain ⟨y3,hy3,hF,he3,b3,_,q3,cs4,hp3,hq3,rfl,hc4⟩:=s1.ix hF
   refine zdxe hp3 hq3 he3 rfl (Y0 1 rfl (zdc 0 (hc4.below h.below) rfl (Y0 5 rfl (dN h fun w3 h=>qh rfl hF ?_ ?_))))<;>intro hF
   ·refine X0 4 rfl ?_
    obtain rfl:=qb hF;replace hF:=hK1
    exact rb h hF rfl
   exact X0 7 rfl (rK ⟨_,hF,rfl,h⟩ rfl)
  exact Y0 13 rfl (dN h fun w4 h=>qbS rfl rfl (X0 7 rfl (rK ⟨_,hF,rfl,h⟩ rfl)))
 refine qu rfl ?_
 obtain rfl:=qb hF;replace hF:=hK1
 refine X0 6 rfl (qi (t:=35) hF rfl ?_ ?_)<;>intro hF
 ·exact X0 9 rfl (rb h hF rfl)
 exact X0 6 rfl (rb h hF rfl)
def qes (t:qv):Nat→Int→Option (Flow Bool Int)
 | 0,_=>none
 | n+1,i1 =>
  bif decide (i1<(t.Bh.length:Int)) then
   (idx t.Bh i1).bind fun y1 =>
   (qap n y1 (-1000000) 1000000).bind fun r1 =>
   bif (!r1) then some (.ret false) else
   qes t n (W64 (i1+1))
  else
   some (.nxt i1)
def qjD (n:Nat) (t:qv):Option Bool :=
 (
  (qhN n t.Bm).bind fun r2 =>
  bif (!r2) then some true else
  (qhN n t.Bj).bind fun r3 =>
  bif (!r3) then some true else
  some ((t.Bh.length:Int) != (W64 ((t.Bm.length:Int)*(t.Bj.length:Int))))).bind fun b1 =>
 bif b1 then some false else
 (qes t n 0).bind fun o=>match o with
 | .ret r=>some r
 | .nxt _ =>
  some true
theorem qpi {t:qv} (ha1:GoT.R w (old w) t cs1) {r:Bool} (hF:qjD n t=some r):RetV Tryz.prog 300 [GoT.v qv cs1] w r:=by
 obtain ⟨p1,k1,p2,k2,p3,k3,rfl,s1,s2,s3⟩:=qaD ha1
 refine zV 41 Tryz.func300 rfl fun h=>zSR (qt h rfl rfl fun w1 bb1 h=>X0 4 rfl ?_)
 obtain ⟨KF1,hKF1,o2,hF,hK2⟩:=bindE hF
 refine qbm (fun e w'=>∃ (b1:Bool),KF1 b1=some r∧e=[(1,.pointer (some ⟨bb1,0,none⟩)),(26,.bool b1)]∧SH w w' [Ch.box bb1 (qgj t p1 p2 p3 k1 k2 k3) 206]) ?_ ?_
 ·refine X1 3 0 h rfl (zcB h hF (qma ⟨_,_,rfl,(h.oldS s1)⟩) rfl fun r2 w4 h hF=>zp2 rfl (qi (t:=8) hF rfl ?_ ?_))<;>intro hF
  ·refine X0 19 rfl ?_
   obtain rfl:=qb hF
   exact rG ⟨_,hK2,rfl,h⟩ rfl
  refine X1 5 0 h rfl (zcB h hF (qma ⟨_,_,rfl,(h.oldS s2)⟩) rfl fun r3 w5 h hF=>X0 4 rfl (qi (t:=14) hF rfl ?_ ?_))<;>intro hF
  ·refine X0 13 rfl ?_
   obtain rfl:=qb hF
   exact rG ⟨_,hK2,rfl,h⟩ rfl
  refine X3 24 0 0 0 h rfl ?_
  obtain rfl:=qb hF
  exact rG ⟨_,hK2,rfl,h⟩ rfl
 rintro e2 w6 ⟨b1,hF,rfl,h⟩
 subst hKF1
 refine qh rfl hF ?_ ?_<;>intro hF
 ·exact X0 4 rfl (rb h hF rfl)
 refine X0 6 rfl ?_
 obtain ⟨o1,hF,hK1⟩:=qc hF
 refine ql (rL (fun m e w'=>∃ (i1:Int),qes t m i1=some o1∧e=[(1,.pointer (some ⟨bb1,0,none⟩)),(3,.int .i64 i1)]∧SH w w' [Ch.box bb1 (qgj t p1 p2 p3 k1 k2 k3) 206]) n ⟨_,hF,rfl,h⟩ rfl ?_)
 rintro m1 e1 w2 ⟨i1,hF,rfl,h⟩
 rcases m1 with _|m1
 ·cases hF
 refine X1 9 0 h rfl (qh rfl hF ?_ ?_)<;>intro hF
 ·refine X1 8 0 h rfl ?_
  obtain ⟨y1,hy1,hF,he1,b2,_,q1,cs2,hp1,hq1,rfl,hc3⟩:=s3.ix hF
  refine zxe hp1 hq1 he1 rfl (zc 0 (hc3.below h.below) rfl (zcB h hF qae rfl fun r1 w3 h hF=>X0 2 rfl (qh rfl hF ?_ ?_)))<;>intro hF
  ·refine X0 4 rfl ?_
   obtain rfl:=qb hF;replace hF:=hK1
   exact rb h hF rfl
  exact X0 7 rfl (rK ⟨_,hF,rfl,h⟩ rfl)
 refine qu rfl ?_
 obtain rfl:=qb hF;replace hF:=hK1
 exact X0 4 rfl (rb h hF rfl)
def qcI (t:qv):Nat→Int→Int→Int→Option (Int × Int × Int)
 | 0,_,_,_=>none
 | n+1,i1,i2,i3 =>
  bif decide (i3<(t.Bh.length:Int)) then
   (idx t.Bh i3).bind fun y3 =>
   (idx t.Bh i3).bind fun y4 =>
   qcI t n (if y3<i1 then y3 else i1) (if y4 > i2 then y4 else i2) (W64 (i3+1))
  else
   some (i1,i2,i3)
def qgO (n:Nat) (t:qv):Option (qe × Int) :=
 (qjD n t).bind fun r1 =>
 bif (!r1) then some ((⟨0,0⟩:qe),1) else
 (idx t.Bh 0).bind fun y1 =>
 (idx t.Bh 0).bind fun y2 =>
 (qcI t n y1 y2 1).bind fun o=>match o with
 | (i1,i2,_) =>
  some ((⟨i1,i2⟩:qe),0)
theorem qnt {t:qv} (ha1:GoT.R w (old w) t cs1) {r:(qe × Int)} (hF:qgO n t=some r):RetV Tryz.prog 289 [GoT.v qv cs1] w r:=by
 obtain ⟨p1,k1,p2,k2,p3,k3,rfl,s1,s2,s3⟩:=qaD ha1
 refine zV 45 Tryz.func289 rfl fun h=>zSR (qt h rfl rfl fun w1 bb1 h=>qm qa h rfl rfl rfl fun w2 bb2 h=>X1 6 1 h rfl (zcB h hF (qpi (h.old ha1)) rfl fun r1 w3 h hF=>X0 2 rfl (qh rfl hF ?_ ?_)))<;>intro hF
 ·refine zSR (r_v (qY qa [] [] rfl rfl rfl rfl rfl rfl rfl rfl) rfl (zs 0 h rfl fun w4 h=>X0 2 rfl ?_))
  obtain rfl:=qb hF
  exact qV qa (ρ:=(qe × Int)) [GoT.v qe [.int .i64 0,.int .i64 0],GoT.v Int [.int .i64 1]] h ⟨⟨_,_,_,rfl,rfl,h.box 0 rfl,rfl⟩,rfl,trivial⟩ (PV.done h (qaa h (qw (S:=fun _=>False) (qz (⟨0,0⟩:qe))) (qX (qw (S:=fun _=>False) rfl)) (by rfl)))
 refine zKS (rA [] [1] h rfl fun w5 h=>M1 3 [0,1] 0 (h.pick [1] rfl) rfl ?_)
 obtain ⟨y1,hy1,hF,he1,b1,_,q1,cs2,hp1,hq1,rfl,hc2⟩:=s3.ix hF
 refine Ae 2 7 hp1 hq1 he1 (h.pick [1] rfl) rfl (Al 3 15 0 hc2 (h.pick [1] rfl) rfl (M1 63 [4,5] 0 (h.pick [1] rfl) rfl ?_))
 obtain ⟨y2,hy2,hF,he2,b2,_,q2,cs3,hp2,hq2,rfl,hc3⟩:=s3.ix hF
 refine Ae 6 127 hp2 hq2 he2 (h.pick [1] rfl) rfl (Al 7 255 0 hc3 (h.pick [1] rfl) rfl (Aw 8 511 (fun w' hw=>qY qa [0,1] [.tmp 13,.tmp 17] rfl rfl rfl rfl rfl rfl rfl rfl) (h.pick [1] rfl) rfl ?_))
 refine Ao 9 1023 rfl (qm qa h rfl rfl rfl fun w6 bb3 h=>Ag (h.pick [2] rfl) (Ao 10 2047 rfl (zs 0 h rfl fun w7 h=>Ag (h.pick [2] rfl) (Ad (X0 5 rfl ?_)))))
 obtain ⟨o1,hF,hK1⟩:=qc hF
 refine ql (rL (fun m e w'=>∃ (i1:Int) (i2:Int) (i3:Int),qcI t m i1 i2 i3=some o1∧e=[(1,.pointer (some ⟨bb1,0,none⟩)),(2,.pointer (some ⟨bb2,0,none⟩)),(4,.pointer (some ⟨bb3,0,none⟩)),(5,.int .i64 i3)]∧SH w w' [Ch.box bb3 [.int .i64 i1,.int .i64 i2] 86,Ch.box bb2 [.int .i64 0,.int .i64 0] 86,Ch.box bb1 (qgj t p1 p2 p3 k1 k2 k3) 206]) n ⟨_,_,_,hF,rfl,h⟩ rfl ?_)
 rintro m1 e1 w8 ⟨i1,i2,i3,hF,rfl,h⟩
 rcases m1 with _|m1
 ·cases hF
 refine X1 9 2 h rfl (qh rfl hF ?_ ?_)<;>intro hF
 ·refine X0 4 rfl (rA [9] [0,2] h rfl fun w9 h=>M2 31 [0,1,2,3,4] 0 1 (h.pick [0,2] rfl) rfl ?_)
  obtain ⟨y3,hy3,hF,he3,b3,_,q3,cs4,hp3,hq3,rfl,hc5⟩:=s3.ix hF
  refine Ae 5 63 hp3 hq3 he3 (h.pick [0,2] rfl) rfl (Al 6 127 0 hc5 (h.pick [0,2] rfl) rfl (M0 511 [7,8] (h.pick [0,2] rfl) rfl (Ao 9 1023 rfl (zs 0 h rfl fun w10 h=>qby (fun hs=>absurd (hs 9 (by decide)) (by decide)) (Ad (rA [9] [0,2] h rfl fun w11 h=>M2 31 [0,1,2,3,4] 0 1 (h.pick [0,2] rfl) rfl ?_))))))
  obtain ⟨y4,hy4,hF,he4,b4,_,q4,cs5,hp4,hq4,rfl,hc6⟩:=s3.ix hF
  exact Ae 5 63 hp4 hq4 he4 (h.pick [0,2] rfl) rfl (Al 6 127 0 hc6 (h.pick [0,2] rfl) rfl (M0 511 [7,8] (h.pick [0,2] rfl) rfl (Ao 9 1023 rfl (zs 0 h rfl fun w12 h=>qby (fun hs=>absurd (hs 9 (by decide)) (by decide)) (Ad (X0 6 rfl (rK ⟨_,_,_,hF,rfl,h⟩ rfl)))))))
 refine qu rfl ?_
 obtain rfl:=qb hF;replace hF:=hK1
 refine X1 3 0 h rfl (zs 1 h rfl fun w13 h=>X0 2 rfl ?_)
 obtain rfl:=qb hF
 exact qV qa (ρ:=(qe × Int)) [GoT.v qe [.int .i64 i1,.int .i64 i2],GoT.v Int [.int .i64 0]] h ⟨⟨_,_,_,rfl,rfl,h.box 1 rfl,rfl⟩,rfl,trivial⟩ (PV.done h (qaa h (qw (S:=fun _=>False) (qz (⟨i1,i2⟩:qe))) (qX (qw (S:=fun _=>False) rfl)) (by rfl)))
def qcH (list:(List qv)) (positive:Bool):Nat→Int→Option (Flow Bool Int)
 | 0,_=>none
 | n+1,i1 =>
  bif decide (i1<2) then
   (idx list i1).bind fun y1 =>
   (qgO n y1).bind fun o=>match o with
    | (r2,r3) =>
     bif (r3 != 0) then some (.ret false) else
     bif positive then
      bif decide (r2.Ap<0) then some (.ret false) else
      qcH list positive n (W64 (i1+1))
     else
      qcH list positive n (W64 (i1+1))
  else
   some (.nxt i1)
def qdm (n:Nat) (list:(List qv)) (positive:Bool):Option Bool :=
 bif ((list.length:Int) != 2) then some false else
 (qcH list positive n 0).bind fun o=>match o with
 | .ret r=>some r
 | .nxt _ =>
  some true
theorem qeP {list:(List qv)} {positive:Bool} (ha1:GoT.R w (old w) list cs1) {r:Bool} (hF:qdm n list positive=some r):RetV Tryz.prog 279 [GoT.v (List qv) cs1,.bool positive] w r:=by
 obtain ⟨p1,k1,rfl,s1⟩:=ha1
 refine zV 33 Tryz.func279 rfl fun h=>X0 11 rfl (qh rfl hF ?_ ?_)<;>intro hF
 ·exact X0 4 rfl (rb h hF rfl)
 refine X0 6 rfl ?_
 obtain ⟨o1,hF,hK1⟩:=qc hF
 refine ql (rL (fun m e w'=>∃ (i1:Int),qcH list positive m i1=some o1∧e=[(0,.slice p1 list.length k1),(1,.bool positive),(5,.int .i64 i1)]∧SH w w' []) n ⟨_,hF,rfl,h⟩ rfl ?_)
 rintro m1 e1 w1 ⟨i1,hF,rfl,h⟩
 rcases m1 with _|m1
 ·cases hF
 refine X0 6 rfl (qh rfl hF ?_ ?_)<;>intro hF
 ·refine X0 7 rfl ?_
  obtain ⟨y1,hy1,hF,he1,b1,_,q1,cs2,hp1,hq1,hr1,hc3⟩:=s1.ix hF
  obtain ⟨p2,k2,p3,k3,p4,k4,rfl,s2,s3,s4⟩:=qaD hr1
  refine zxe hp1 hq1 he1 rfl (zc 0 (hc3.below h.below) rfl ?_)
  obtain ⟨r1,hr2,hF⟩:=qc hF
  obtain ⟨r2,r3⟩:=r1
  refine qa2 (r2,r3) h (cB 289 rfl) (qnt (qeT y1 (h.oldS s2) (h.oldS s3) (h.oldS s4)) hr2) rfl rfl rfl rfl fun w2 S1 us1 hv1 hr3=>?_
  obtain ⟨S2,S3,cs3,us2,rfl,hv2,hr4⟩:=hv1.cons hr3
  obtain rfl:=qy (hv2.sh.own 0 rfl)
  obtain ⟨rfl,h⟩:=hv2.lastI hr4
  refine zp3 rfl (qm qa h rfl rfl rfl fun w3 bb1 h=>zs 0 h rfl fun w4 h=>X0 7 rfl (qi (t:=25) hF rfl ?_ ?_))<;>intro hF
  ·refine X0 8 rfl (qbW rfl rfl (X0 4 rfl ?_))
   obtain rfl:=qb hF;replace hF:=hK1
   exact rb h hF rfl
  refine X0 4 rfl (qi (t:=27) hF rfl ?_ ?_)<;>intro hF
  ·refine X1 10 0 h rfl (qh rfl hF ?_ ?_)<;>intro hF
   ·refine X0 4 rfl ?_
    obtain rfl:=qb hF;replace hF:=hK1
    exact rb h hF rfl
   refine X0 7 rfl ?_
   replace h:=h.pick [] rfl
   exact rK ⟨_,hF,rfl,h⟩ rfl
  refine X0 7 rfl (qbS rfl rfl (X0 7 rfl ?_))
  replace h:=h.pick [] rfl
  exact rK ⟨_,hF,rfl,h⟩ rfl
 refine qu rfl ?_
 obtain rfl:=qb hF;replace hF:=hK1
 exact X0 4 rfl (rb h hF rfl)
def qkD (n:Nat) (a_0:qB) (a_1:qP):Option Bool :=
 (
  (qap n a_1.Bk 0 (W64 ((W64 ((a_0.Be.length:Int)-1))-1))).bind fun r7 =>
  bif (!r7) then some true else
  (qap n a_1.To 0 (W64 ((a_0.Be.length:Int)-1))).bind fun r8 =>
  some (!r8)).bind fun b1 =>
 bif b1 then some false else
 (idx a_0.Be a_1.Bk).bind fun y1 =>
 bif (a_1.Bf==1) then
  bif (!y1.Bq) then
   bif (a_1.To==(W64 ((a_0.Be.length:Int)-1))) then
    (qap n a_1.Bn 1 3).bind fun r1 =>
    bif r1 then
     (qdm n a_1.Bp true).bind fun r2 =>
     bif r2 then
      (qdm n a_1.Bc true).bind fun r3 =>
      some r3
     else
      some false
    else
     some false
   else
    some false
  else
   some false
 else
  (
   bif (a_1.Bf==2) then some (a_1.Bf==2) else
   some (a_1.Bf==3)).bind fun b3 =>
  bif b3 then
   bif y1.Bq then
    bif (a_1.To==(W64 ((a_0.Be.length:Int)-1))) then
     bif (a_1.Bn==0) then
      (qdm n a_1.Bp true).bind fun r4 =>
      bif r4 then
       (qdm n a_1.Bc true).bind fun r5 =>
       some r5
      else
       some false
     else
      some false
    else
     some false
   else
    some false
  else
   (
    bif (a_1.Bf==4) then some (a_1.Bf==4) else
    some (a_1.Bf==5)).bind fun b4 =>
   bif b4 then
    bif y1.Bq then
     bif decide (a_1.To<(W64 ((a_0.Be.length:Int)-1))) then
      (idx a_0.Be a_1.To).bind fun y2 =>
      bif (!y2.Bq) then
       bif (a_1.Bn==0) then
        (qdm n a_1.Bp false).bind fun r6 =>
        bif r6 then some ((a_1.Bc.length:Int)==0) else
        some false
       else
        some false
      else
       some false
     else
      some false
    else
     some false
   else
    some false
theorem qqs {a_0:qB} {a_1:qP} (ha1:GoT.R w (old w) a_0 cs1) (ha2:GoT.R w (old w) a_1 cs2) {r:Bool} (hF:qkD n a_0 a_1=some r):RetV Tryz.prog 261 [GoT.v qB cs1,GoT.v qP cs2] w r:=by
 obtain ⟨p1,k1,p2,k2,p3,k3,rfl,s1,s2,s3⟩:=qac ha1
 obtain ⟨p4,k4,p5,k5,rfl,s4,s5⟩:=qag ha2
 refine zV 119 Tryz.func261 rfl fun h=>zSR (qt h rfl rfl fun w1 bb1 h=>qt h rfl rfl fun w2 bb2 h=>X1 12 1 h rfl ?_)
 obtain ⟨KF3,hKF3,o3,hF,hK3⟩:=bindE hF
 refine qbm (fun e w'=>∃ (b1:Bool),KF3 b1=some r∧e=[(2,.pointer (some ⟨bb1,0,none⟩)),(3,.pointer (some ⟨bb2,0,none⟩)),(5,.int .i64 (W64 ((a_0.Be.length:Int)-1))),(23,.bool b1)]∧SH w w' [Ch.box bb2 (qgo a_1 p4 p5 k4 k5) 173,Ch.box bb1 (qdQ a_0 p1 p2 p3 k1 k2 k3) 168]) ?_ ?_
 ·refine X1 5 0 h rfl (zcB h hF qae rfl fun r7 w11 h hF=>zp2 rfl (qi (t:=17) hF rfl ?_ ?_))<;>intro hF
  ·refine X0 7 rfl ?_
   obtain rfl:=qb hF
   exact rG ⟨_,hK3,rfl,h⟩ rfl
  refine X1 7 0 h rfl (zcB h hF qae rfl fun r8 w12 h hF=>X0 4 rfl ?_)
  obtain rfl:=qb hF
  exact rG ⟨_,hK3,rfl,h⟩ rfl
 rintro e3 w13 ⟨b1,hF,rfl,h⟩
 subst hKF3
 refine qh rfl hF ?_ ?_<;>intro hF
 ·exact X0 4 rfl (rb h hF rfl)
 refine X2 7 1 0 h rfl ?_
 obtain ⟨y1,hy1,hF,he1,b2,_,q1,cs3,hp1,hq1,hr1,hc2⟩:=s1.ix hF
 obtain rfl:=qbq hr1
 refine zxe hp1 hq1 he1 rfl (zp1 rfl (zc 3 (hc2.below h.below) rfl (X1 14 0 h rfl (qh rfl hF ?_ ?_))))<;>intro hF
 ·refine X0 5 rfl (qi (t:=37) hF rfl ?_ ?_)<;>intro hF
  ·refine X1 10 0 h rfl (qi (t:=43) hF rfl ?_ ?_)<;>intro hF
   ·refine X1 5 0 h rfl (zcB h hF qae rfl fun r1 w3 h hF=>zp2 rfl (qi (t:=48) hF rfl ?_ ?_))<;>intro hF
    ·refine X1 5 0 h rfl (zcB h hF (qeP ⟨_,_,rfl,(h.oldS s4)⟩) rfl fun r2 w4 h hF=>zp2 rfl (qi (t:=53) hF rfl ?_ ?_))<;>intro hF
     ·exact X1 5 0 h rfl (zcB h hF (qeP ⟨_,_,rfl,(h.oldS s5)⟩) rfl fun r3 w5 h hF=>X0 3 rfl (rb h hF rfl))
     exact X0 6 rfl (rb h hF rfl)
    exact X0 11 rfl (rb h hF rfl)
   exact X0 16 rfl (rb h hF rfl)
  exact X0 22 rfl (rb h hF rfl)
 refine X0 6 rfl ?_
 obtain ⟨KF2,hKF2,o2,hF,hK2⟩:=bindE hF
 refine qbm (fun e w'=>∃ (b3:Bool),KF2 b3=some r∧e=[(2,.pointer (some ⟨bb1,0,none⟩)),(3,.pointer (some ⟨bb2,0,none⟩)),(5,.int .i64 (W64 ((a_0.Be.length:Int)-1))),(6,.bool y1.Bq),(32,.int .i64 a_1.Bf),(58,.bool b3)]∧SH w w' [Ch.box bb2 (qgo a_1 p4 p5 k4 k5) 173,Ch.box bb1 (qdQ a_0 p1 p2 p3 k1 k2 k3) 168]) ?_ ?_
 ·refine qh rfl hF ?_ ?_<;>intro hF
  ·refine qhA ?_
   obtain rfl:=qb hF
   exact rG ⟨_,hK2,rfl,h⟩ rfl
  refine X0 4 rfl ?_
  obtain rfl:=qb hF
  exact rG ⟨_,hK2,rfl,h⟩ rfl
 rintro e2 w10 ⟨b3,hF,rfl,h⟩
 subst hKF2
 refine qh rfl hF ?_ ?_<;>intro hF
 ·refine X0 4 rfl (qi (t:=62) hF rfl ?_ ?_)<;>intro hF
  ·refine X1 10 0 h rfl (qi (t:=68) hF rfl ?_ ?_)<;>intro hF
   ·refine X1 8 0 h rfl (qi (t:=73) hF rfl ?_ ?_)<;>intro hF
    ·refine X1 5 0 h rfl (zcB h hF (qeP ⟨_,_,rfl,(h.oldS s4)⟩) rfl fun r4 w6 h hF=>zp2 rfl (qi (t:=78) hF rfl ?_ ?_))<;>intro hF
     ·exact X1 5 0 h rfl (zcB h hF (qeP ⟨_,_,rfl,(h.oldS s5)⟩) rfl fun r5 w7 h hF=>X0 3 rfl (rb h hF rfl))
     exact X0 6 rfl (rb h hF rfl)
    exact X0 11 rfl (rb h hF rfl)
   exact X0 16 rfl (rb h hF rfl)
  exact X0 22 rfl (rb h hF rfl)
 refine X0 6 rfl ?_
 obtain ⟨KF1,hKF1,o1,hF,hK1⟩:=bindE hF
 refine qbm (fun e w'=>∃ (b4:Bool),KF1 b4=some r∧e=[(2,.pointer (some ⟨bb1,0,none⟩)),(3,.pointer (some ⟨bb2,0,none⟩)),(5,.int .i64 (W64 ((a_0.Be.length:Int)-1))),(6,.bool y1.Bq),(83,.bool b4)]∧SH w w' [Ch.box bb2 (qgo a_1 p4 p5 k4 k5) 173,Ch.box bb1 (qdQ a_0 p1 p2 p3 k1 k2 k3) 168]) ?_ ?_
 ·refine qh rfl hF ?_ ?_<;>intro hF
  ·refine qhA ?_
   obtain rfl:=qb hF
   exact rG ⟨_,hK1,rfl,h⟩ rfl
  refine X0 4 rfl ?_
  obtain rfl:=qb hF
  exact rG ⟨_,hK1,rfl,h⟩ rfl
 rintro e1 w9 ⟨b4,hF,rfl,h⟩
 subst hKF1
 refine qh rfl hF ?_ ?_<;>intro hF
 ·refine X0 4 rfl (qi (t:=87) hF rfl ?_ ?_)<;>intro hF
  ·refine X1 10 0 h rfl (qi (t:=93) hF rfl ?_ ?_)<;>intro hF
   ·refine X2 9 1 0 h rfl ?_
    obtain ⟨y2,hy2,hF,he2,b5,_,q2,cs4,hp2,hq2,hr7,hc6⟩:=s1.ix hF
    obtain rfl:=qbq hr7
    refine zxe hp2 hq2 he2 rfl (X0 3 rfl (zc 3 (hc6.below h.below) rfl (X0 4 rfl (qi (t:=103) hF rfl ?_ ?_))))<;>intro hF
    ·refine X1 8 0 h rfl (qi (t:=108) hF rfl ?_ ?_)<;>intro hF
     ·refine X1 5 0 h rfl (zcB h hF (qeP ⟨_,_,rfl,(h.oldS s4)⟩) rfl fun r6 w8 h hF=>zp2 rfl (qi (t:=113) hF rfl ?_ ?_))<;>intro hF
      ·exact X1 11 0 h rfl (rb h hF rfl)
      exact X0 7 rfl (rb h hF rfl)
     exact X0 12 rfl (rb h hF rfl)
    exact X0 17 rfl (rb h hF rfl)
   exact X0 27 rfl (rb h hF rfl)
  exact X0 33 rfl (rb h hF rfl)
 exact X0 6 rfl (rb h hF rfl)
def qc9 (c:qB):Nat→(List Int)→Int→Option ((List Int) × Int)
 | 0,_,_=>none
 | n+1,x2,i1 =>
  bif decide (i1<(c.Au.length:Int)) then
   (idx c.Au i1).bind fun y1 =>
   (idx x2 y1.Bf).bind fun y2 =>
   (idx x2 y1.Bf).bind fun _ =>
   qc9 c n (setS x2 y1.Bf (W64 (y2+1))) (W64 (i1+1))
  else
   some (x2,i1)
def qiP (n:Nat) (c:qB):Option (List Int) :=
 (mkS 6 (0:Int)).bind fun x1 =>
 (qc9 c n x1 0).bind fun o=>match o with
 | (x2,_) =>
  some x2
theorem qoI {c:qB} (ha1:GoT.R w (old w) c cs1) {r:(List Int)} (hF:qiP n c=some r):RetV Tryz.prog 262 [GoT.v qB cs1] w r:=by
 obtain ⟨p1,k1,p2,k2,p3,k3,rfl,s1,s2,s3⟩:=qac ha1
 refine zV 25 Tryz.func262 rfl fun h=>zSR (qt h rfl rfl fun w1 bb1 h=>X0 4 rfl ?_)
 obtain ⟨x1,hx1,hF⟩:=qc hF
 obtain ⟨g1,g2,hx1⟩:=qN hx1
 refine qai qa Int h rfl rfl rfl rfl rfl rfl rfl rfl rfl g1 g2 hx1 rfl fun w2 S1 p4 h=>X0 7 rfl ?_
 obtain ⟨o1,hF,hK1⟩:=qc hF
 refine ql (rL (fun m e w'=>∃ (x2:(List Int)) (i1:Int),qc9 c m x2 i1=some o1∧e=[(1,.pointer (some ⟨bb1,0,none⟩)),(3,.slice p4 x1.length x1.length),(4,.int .i64 i1)]∧SH w w' [Ch.own S1 (x2:List Int) [.slice p4 x1.length x1.length],Ch.box bb1 (qdQ c p1 p2 p3 k1 k2 k3) 168]) n ⟨_,_,hF,rfl,h⟩ rfl ?_)
 rintro m1 e1 w3 ⟨x2,i1,hF,rfl,h⟩
 rcases m1 with _|m1
 ·cases hF
 refine X1 9 1 h rfl (qh rfl hF ?_ ?_)<;>intro hF
 ·refine X1 8 1 h rfl ?_
  obtain ⟨y1,hy1,hF,he1,b1,_,q1,cs2,hp1,hq1,hr1,hc2⟩:=s2.ix hF
  obtain ⟨p5,k4,p6,k5,rfl,s4,s5⟩:=qag hr1
  refine zxe hp1 hq1 he1 rfl (zp1 rfl (zc 0 (hc2.below h.below) rfl ?_))
  obtain ⟨y2,hy2,hF,he2,b2,_,q2,cs3,hp2,hq2,rfl,hc3⟩:=(h.sl 0 rfl).1.ix hF
  refine zx hp2 hq2 ⟨he2.1,qU he2.2.1 (h.sl 0 rfl).2⟩ rfl (zc 0 hc3 rfl (zp1 rfl ?_))
  obtain ⟨y3,hy3,hF,he3,b3,_,q3,cs4,hp3,hq3,rfl,hc4⟩:=(h.sl 0 rfl).1.ix hF
  exact zx hp3 hq3 ⟨he3.1,qU he3.2.1 (h.sl 0 rfl).2⟩ rfl (qbu qa 0 0 (W64 (y2+1)) h rfl hy3 hp3 hq3 rfl hc4 rfl rfl rfl rfl rfl rfl rfl fun w4 h=>X0 7 rfl (rK ⟨_,_,hF,rfl,h⟩ rfl))
 refine qu rfl ?_
 obtain rfl:=qb hF;replace hF:=hK1
 refine X0 5 rfl ?_
 obtain rfl:=qb hF
 exact rO 0 h rfl ⟨rfl,trivial⟩
end Go.Fw
