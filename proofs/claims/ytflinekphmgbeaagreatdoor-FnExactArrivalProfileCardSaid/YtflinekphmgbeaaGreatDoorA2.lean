/- By a program of mine (gen.py): for each function a plain function and the proof that the code computes it. -/
import Derived.Test.YtflinekphmgbeaaGreatDoorFw38
import Derived.Test.YtflinekphmgbeaaGreatDoorChecked
import Derived.Test.YtflinekphmgbeaaGreatDoorS1
open Option renaming bind_some → jd
open Nat renaming le_refl → je, mul_le_mul_right → jr, le_of_ble_eq_true → jt, lt_of_lt_of_le → jx, succ_mul → jK, zero_add → jZ, add_zero → Ja
open Bool renaming and_eq_true → jf, eq_iff_iff → jm, true_and → jA, not_eq_true' → jJ, not_true → Jb
open Go.Result renaming andThen_ok → jg
open List renaming length_append → jh, getElem?_eq_getElem → ji, mem_cons_of_mem → jo, getElem_mem → jp, append_assoc → jq, length_singleton → js, getElem?_append_left → ju, take_succ_eq_append_getElem → jv, getD_eq_getElem?_getD → jw, mem_cons_self → jy, length_map → jz, getElem?_take → jB, getElem?_append_right → jC, take_length → jD, getElem?_toArray → jE, drop_eq_getElem_cons → jF, eq_nil_of_length_eq_zero → jH, length_take → jI, map_append → jL, all_eq_true → jM, not_mem_nil → jO, getElem_of_mem → jP, length_replicate → jQ, size_toArray → jR, mem_cons → jU, append_nil → jX, ext_getElem → jY
open Go.Sem renaming run_bind → jj, run_pure → jk
open Int renaming toNat_natCast → jn, tdiv_eq_ediv_of_nonneg → jG, mul_nonneg → jS, mul_assoc → jT, mul_le_mul → jV, le_refl → jW
open Array renaming getElem?_append_left → jN

namespace Go.Fw
open Go Go.Proofs
open Go.RowKit (Below)
set_option maxRecDepth 100000
set_option maxHeartbeats 1600000
variable {n:Nat} {w:World} {S:Nat→Prop} {cs1 cs2 cs3 cs4 cs5 cs6 cs7 cs8 cs9:List Value}
structure qaj where
 Bb:ByteArray
 Bv:Int
 Bs:Int
 Br:Bool
instance gt_TPin:GoT qaj:=isoT (pairT instStr (pairT instInt (pairT instInt instBool))) (fun x=>(x.Bb,x.Bv,x.Bs,x.Br)) ⟨ByteArray.empty,0,0,false⟩ rfl true (fun h=>by cases h)
instance fl_TPin:Flat qaj:=qhJ (pairT instStr (pairT instInt (pairT instInt instBool))) (fun x:qaj=>(x.Bb,x.Bv,x.Bs,x.Br)) ⟨ByteArray.empty,0,0,false⟩ rfl true (fun h=>by cases h) (qbj _ _ (inferInstanceAs (Flat ByteArray)) (qbj _ _ (inferInstanceAs (Flat Int)) (qbj _ _ (inferInstanceAs (Flat Int)) (inferInstanceAs (Flat Bool)))))
abbrev qpA (x:qaj):List Value:=[.string x.Bb,.int .i64 x.Bv,.int .i64 x.Bs,.bool x.Br]
theorem qaZ {x:qaj} {cs:List Value} (h:GoT.R w S x cs):cs=(qpA x):=by
 obtain ⟨_,_,rfl,rfl,⟨_,_,rfl,rfl,⟨_,_,rfl,rfl,rfl⟩⟩⟩:=h
 exact rfl
theorem qd1 (x:qaj):GoT.R w S x (qpA x):=have h:=pR (rT x.Bb) (pR (rI x.Bv) (pR (rI x.Bs) (rB x.Br)));h
structure qr where
 Bm:(List Int)
 Bj:(List Int)
 Bh:(List Int)
instance gt_TTable:GoT qr:=isoT (pairT (@instList Int instInt) (pairT (@instList Int instInt) (@instList Int instInt))) (fun x=>(x.Bm,x.Bj,x.Bh)) ⟨[],[],[]⟩ rfl true (fun h=>by cases h)
abbrev qgV (x:qr) (p0 p1 p2:Option Addr) (k0 k1 k2:Nat):List Value:=[.slice p0 (x.Bm).length k0,.slice p1 (x.Bj).length k1,.slice p2 (x.Bh).length k2]
theorem qaE {x:qr} {cs:List Value} (h:GoT.R w S x cs):∃ p0 k0 p1 k1 p2 k2,cs=(qgV x p0 p1 p2 k0 k1 k2)∧SlR w S x.Bm p0 k0∧SlR w S x.Bj p1 k1∧SlR w S x.Bh p2 k2:=by
 obtain ⟨_,_,rfl,⟨p0,k0,rfl,s0⟩,⟨_,_,rfl,⟨p1,k1,rfl,s1⟩,⟨p2,k2,rfl,s2⟩⟩⟩:=h
 exact ⟨p0,k0,p1,k1,p2,k2,rfl,s0,s1,s2⟩
theorem qfs (x:qr) {p0 p1 p2:Option Addr} {k0 k1 k2:Nat} (s0:SlR w S x.Bm p0 k0) (s1:SlR w S x.Bj p1 k1) (s2:SlR w S x.Bh p2 k2):GoT.R w S x (qgV x p0 p1 p2 k0 k1 k2):=have h:=pR (rS s0) (pR (rS s1) (rS s2));h
theorem qs5 {w0:World} {L:List Ch} {x:qr} {p0 p1 p2:Option Addr} {l0 k0 l1 k1 l2 k2:Nat} (h:SH w0 w (Ch.own S x [.slice p0 l0 k0,.slice p1 l1 k1,.slice p2 l2 k2]::L)):∃ S0 S1 S2,SH w0 w (Ch.own S2 x.Bh [.slice p2 l2 k2]::Ch.own S1 x.Bj [.slice p1 l1 k1]::Ch.own S0 x.Bm [.slice p0 l0 k0]::L):=by
 obtain ⟨hv,ho⟩:=h.headV
 replace ho:GoT.O w S x _:=ho
 obtain ⟨A0,B0,d0,e0,he,o0,ho,a0,b0⟩:=ho
 obtain ⟨q,m,rfl,s0⟩:=o0
 cases he
 replace hv:=hv.push (c:=Ch.own A0 x.Bm [_]) (S2:=B0) ⟨_,_,rfl,s0⟩ (fun _ hd=>hd.elim) a0 b0
 obtain ⟨A1,B1,d1,e1,he,o1,ho,a1,b1⟩:=ho
 obtain ⟨q,m,rfl,s1⟩:=o1
 cases he
 replace hv:=hv.push (c:=Ch.own A1 x.Bj [_]) (S2:=B1) ⟨_,_,rfl,s1⟩ (fun _ hd=>hd.elim) a1 b1
 obtain ⟨q,m,he,s2⟩:=ho
 cases he
 replace hv:=hv.push (c:=Ch.own B1 x.Bh [_]) (S2:=(fun _=>False)) ⟨_,_,rfl,s2⟩ (fun _ hd=>hd.elim) (fun b hb=>⟨hb,fun h=>h⟩) (fun _ h=>h.elim)
 exact ⟨A0,A1,B1,hv.sh⟩
theorem qsy {w0:World} {L:List Ch} (x:qr) {I0 I1 I2:List Nat} {c0 c1 c2:List Value} (h:SH w0 w L) (h0:PO w L I0 x.Bm c0) (h1:PO w L I1 x.Bj c1) (h2:PO w L I2 x.Bh c2) (b0:apartB I0 (I1++I2)=true) (b1:apartB I1 I2=true):PO w L (I0++(I1++I2)) x (c0++(c1++c2)) :=
 (qbX h h0 (qbX h h1 h2 b1) b0)
structure qG where
 Bf:Int
 Bk:Int
 To:Int
 Bp:Int
 Bn:(List qr)
 Bc:(List qr)
instance gt_TArc:GoT qG:=isoT (pairT instInt (pairT instInt (pairT instInt (pairT instInt (pairT (@instList qr gt_TTable) (@instList qr gt_TTable)))))) (fun x=>(x.Bf,x.Bk,x.To,x.Bp,x.Bn,x.Bc)) ⟨0,0,0,0,[],[]⟩ rfl true (fun h=>by cases h)
abbrev qg6 (x:qG) (p0 p1:Option Addr) (k0 k1:Nat):List Value:=[.int .i64 x.Bf,.int .i64 x.Bk,.int .i64 x.To,.int .i64 x.Bp,.slice p0 (x.Bn).length k0,.slice p1 (x.Bc).length k1]
theorem qae {x:qG} {cs:List Value} (h:GoT.R w S x cs):∃ p0 k0 p1 k1,cs=(qg6 x p0 p1 k0 k1)∧SlR w S x.Bn p0 k0∧SlR w S x.Bc p1 k1:=by
 obtain ⟨_,_,rfl,rfl,⟨_,_,rfl,rfl,⟨_,_,rfl,rfl,⟨_,_,rfl,rfl,⟨_,_,rfl,⟨p0,k0,rfl,s0⟩,⟨p1,k1,rfl,s1⟩⟩⟩⟩⟩⟩:=h
 exact ⟨p0,k0,p1,k1,rfl,s0,s1⟩
theorem qfY (x:qG) {p0 p1:Option Addr} {k0 k1:Nat} (s0:SlR w S x.Bn p0 k0) (s1:SlR w S x.Bc p1 k1):GoT.R w S x (qg6 x p0 p1 k0 k1):=have h:=pR (rI x.Bf) (pR (rI x.Bk) (pR (rI x.To) (pR (rI x.Bp) (pR (rS s0) (rS s1)))));h
theorem qvv {w0:World} {L:List Ch} {x:qG} {p0 p1:Option Addr} {l0 k0 l1 k1:Nat} (h:SH w0 w (Ch.own S x [.int .i64 x.Bf,.int .i64 x.Bk,.int .i64 x.To,.int .i64 x.Bp,.slice p0 l0 k0,.slice p1 l1 k1]::L)):∃ S0 S1,SH w0 w (Ch.own S1 x.Bc [.slice p1 l1 k1]::Ch.own S0 x.Bn [.slice p0 l0 k0]::L):=by
 obtain ⟨hv,ho⟩:=h.headV
 replace ho:GoT.O w S x _:=ho
 obtain ⟨A0,B0,d0,e0,he,o0,ho,a0,b0⟩:=ho
 obtain rfl:=o0
 cases he
 replace hv:=hv.less b0
 obtain ⟨A1,B1,d1,e1,he,o1,ho,a1,b1⟩:=ho
 obtain rfl:=o1
 cases he
 replace hv:=hv.less b1
 obtain ⟨A2,B2,d2,e2,he,o2,ho,a2,b2⟩:=ho
 obtain rfl:=o2
 cases he
 replace hv:=hv.less b2
 obtain ⟨A3,B3,d3,e3,he,o3,ho,a3,b3⟩:=ho
 obtain rfl:=o3
 cases he
 replace hv:=hv.less b3
 obtain ⟨A4,B4,d4,e4,he,o4,ho,a4,b4⟩:=ho
 obtain ⟨q,m,rfl,s0⟩:=o4
 cases he
 replace hv:=hv.push (c:=Ch.own A4 x.Bn [_]) (S2:=B4) ⟨_,_,rfl,s0⟩ (fun _ hd=>hd.elim) a4 b4
 obtain ⟨q,m,he,s1⟩:=ho
 cases he
 replace hv:=hv.push (c:=Ch.own B4 x.Bc [_]) (S2:=(fun _=>False)) ⟨_,_,rfl,s1⟩ (fun _ hd=>hd.elim) (fun b hb=>⟨hb,fun h=>h⟩) (fun _ h=>h.elim)
 exact ⟨A4,B4,hv.sh⟩
theorem qv4 {w0:World} {L:List Ch} (x:qG) {I0 I1 I2 I3 I4 I5:List Nat} {c0 c1 c2 c3 c4 c5:List Value} (h:SH w0 w L) (h0:PO w L I0 x.Bf c0) (h1:PO w L I1 x.Bk c1) (h2:PO w L I2 x.To c2) (h3:PO w L I3 x.Bp c3) (h4:PO w L I4 x.Bn c4) (h5:PO w L I5 x.Bc c5) (b0:apartB I0 (I1++(I2++(I3++(I4++I5))))=true) (b1:apartB I1 (I2++(I3++(I4++I5)))=true) (b2:apartB I2 (I3++(I4++I5))=true) (b3:apartB I3 (I4++I5)=true) (b4:apartB I4 I5=true):PO w L (I0++(I1++(I2++(I3++(I4++I5))))) x (c0++(c1++(c2++(c3++(c4++c5))))) :=
 (qbX h h0 (qbX h h1 (qbX h h2 (qbX h h3 (qbX h h4 h5 b4) b3) b2) b1) b0)
structure qw where
 Bb:ByteArray
 Bf:Int
 Bd:(List qaj)
 Au:(List qG)
 Bo:(List Int)
 Ca:Int
 Bu:Int
instance gt_TCell:GoT qw:=isoT (pairT instStr (pairT instInt (pairT (@instList qaj gt_TPin) (pairT (@instList qG gt_TArc) (pairT (@instList Int instInt) (pairT instInt instInt)))))) (fun x=>(x.Bb,x.Bf,x.Bd,x.Au,x.Bo,x.Ca,x.Bu)) ⟨ByteArray.empty,0,[],[],[],0,0⟩ rfl true (fun h=>by cases h)
abbrev qee (x:qw) (p0 p1 p2:Option Addr) (k0 k1 k2:Nat):List Value:=[.string x.Bb,.int .i64 x.Bf,.slice p0 (x.Bd).length k0,.slice p1 (x.Au).length k1,.slice p2 (x.Bo).length k2,.int .i64 x.Ca,.int .i64 x.Bu]
theorem qad {x:qw} {cs:List Value} (h:GoT.R w S x cs):∃ p0 k0 p1 k1 p2 k2,cs=(qee x p0 p1 p2 k0 k1 k2)∧SlR w S x.Bd p0 k0∧SlR w S x.Au p1 k1∧SlR w S x.Bo p2 k2:=by
 obtain ⟨_,_,rfl,rfl,⟨_,_,rfl,rfl,⟨_,_,rfl,⟨p0,k0,rfl,s0⟩,⟨_,_,rfl,⟨p1,k1,rfl,s1⟩,⟨_,_,rfl,⟨p2,k2,rfl,s2⟩,⟨_,_,rfl,rfl,rfl⟩⟩⟩⟩⟩⟩:=h
 exact ⟨p0,k0,p1,k1,p2,k2,rfl,s0,s1,s2⟩
theorem qkJ (x:qw) {p0 p1 p2:Option Addr} {k0 k1 k2:Nat} (s0:SlR w S x.Bd p0 k0) (s1:SlR w S x.Au p1 k1) (s2:SlR w S x.Bo p2 k2):GoT.R w S x (qee x p0 p1 p2 k0 k1 k2):=have h:=pR (rT x.Bb) (pR (rI x.Bf) (pR (rS s0) (pR (rS s1) (pR (rS s2) (pR (rI x.Ca) (rI x.Bu))))));h
theorem qua {w0:World} {L:List Ch} {x:qw} {p0 p1 p2:Option Addr} {l0 k0 l1 k1 l2 k2:Nat} (h:SH w0 w (Ch.own S x [.string x.Bb,.int .i64 x.Bf,.slice p0 l0 k0,.slice p1 l1 k1,.slice p2 l2 k2,.int .i64 x.Ca,.int .i64 x.Bu]::L)):∃ S0 S1 S2,SH w0 w (Ch.own S2 x.Bo [.slice p2 l2 k2]::Ch.own S1 x.Au [.slice p1 l1 k1]::Ch.own S0 x.Bd [.slice p0 l0 k0]::L):=by
 obtain ⟨hv,ho⟩:=h.headV
 replace ho:GoT.O w S x _:=ho
 obtain ⟨A0,B0,d0,e0,he,o0,ho,a0,b0⟩:=ho
 obtain rfl:=o0
 cases he
 replace hv:=hv.less b0
 obtain ⟨A1,B1,d1,e1,he,o1,ho,a1,b1⟩:=ho
 obtain rfl:=o1
 cases he
 replace hv:=hv.less b1
 obtain ⟨A2,B2,d2,e2,he,o2,ho,a2,b2⟩:=ho
 obtain ⟨q,m,rfl,s0⟩:=o2
 cases he
 replace hv:=hv.push (c:=Ch.own A2 x.Bd [_]) (S2:=B2) ⟨_,_,rfl,s0⟩ (fun _ hd=>hd.elim) a2 b2
 obtain ⟨A3,B3,d3,e3,he,o3,ho,a3,b3⟩:=ho
 obtain ⟨q,m,rfl,s1⟩:=o3
 cases he
 replace hv:=hv.push (c:=Ch.own A3 x.Au [_]) (S2:=B3) ⟨_,_,rfl,s1⟩ (fun _ hd=>hd.elim) a3 b3
 obtain ⟨A4,B4,d4,e4,he,o4,ho,a4,b4⟩:=ho
 obtain ⟨q,m,rfl,s2⟩:=o4
 cases he
 replace hv:=hv.push (c:=Ch.own A4 x.Bo [_]) (S2:=B4) ⟨_,_,rfl,s2⟩ (fun _ hd=>hd.elim) a4 b4
 obtain ⟨A5,B5,d5,e5,he,o5,ho,a5,b5⟩:=ho
 obtain rfl:=o5
 cases he
 replace hv:=hv.less b5
 exact ⟨A2,A3,A4,hv.sh⟩
theorem quj {w0:World} {L:List Ch} (x:qw) {I0 I1 I2 I3 I4 I5 I6:List Nat} {c0 c1 c2 c3 c4 c5 c6:List Value} (h:SH w0 w L) (h0:PO w L I0 x.Bb c0) (h1:PO w L I1 x.Bf c1) (h2:PO w L I2 x.Bd c2) (h3:PO w L I3 x.Au c3) (h4:PO w L I4 x.Bo c4) (h5:PO w L I5 x.Ca c5) (h6:PO w L I6 x.Bu c6) (b0:apartB I0 (I1++(I2++(I3++(I4++(I5++I6)))))=true) (b1:apartB I1 (I2++(I3++(I4++(I5++I6))))=true) (b2:apartB I2 (I3++(I4++(I5++I6)))=true) (b3:apartB I3 (I4++(I5++I6))=true) (b4:apartB I4 (I5++I6)=true) (b5:apartB I5 I6=true):PO w L (I0++(I1++(I2++(I3++(I4++(I5++I6)))))) x (c0++(c1++(c2++(c3++(c4++(c5++c6)))))) :=
 (qbX h h0 (qbX h h1 (qbX h h2 (qbX h h3 (qbX h h4 (qbX h h5 h6 b5) b4) b3) b2) b1) b0)
structure qn where
 As:(List qw)
instance gt_TLibrary:GoT qn:=isoT (@instList qw gt_TCell) (fun x=>x.As) ⟨[]⟩ rfl true (fun h=>by cases h)
theorem qbz {x:qn} {cs:List Value} (h:GoT.R w S x cs):∃ p0 k0,cs=[.slice p0 (x.As).length k0]∧SlR w S x.As p0 k0:=by
 obtain ⟨p0,k0,rfl,s0⟩:=h
 exact ⟨p0,k0,rfl,s0⟩
theorem qd9 (x:qn) {p0:Option Addr} {k0:Nat} (s0:SlR w S x.As p0 k0):GoT.R w S x [.slice p0 (x.As).length k0]:=have h:=rS s0;h
theorem qrx {w0:World} {L:List Ch} {x:qn} {p0:Option Addr} {l0 k0:Nat} (h:SH w0 w (Ch.own S x [.slice p0 l0 k0]::L)):∃ S0,SH w0 w (Ch.own S0 x.As [.slice p0 l0 k0]::L):=by
 obtain ⟨hv,ho⟩:=h.headV
 replace ho:GoT.O w S x _:=ho
 obtain ⟨q,m,he,s0⟩:=ho
 cases he
 replace hv:=hv.push (c:=Ch.own S x.As [_]) (S2:=(fun _=>False)) ⟨_,_,rfl,s0⟩ (fun _ hd=>hd.elim) (fun b hb=>⟨hb,fun h=>h⟩) (fun _ h=>h.elim)
 exact ⟨S,hv.sh⟩
theorem qtK {w0:World} {L:List Ch} (x:qn) {I0:List Nat} {c0:List Value} (_:SH w0 w L) (h0:PO w L I0 x.As c0):PO w L I0 x c0 :=
 h0
structure qi where
 Bb:ByteArray
 Bt:Int
 Ak:(List Int)
instance gt_TInstance:GoT qi:=isoT (pairT instStr (pairT instInt (@instList Int instInt))) (fun x=>(x.Bb,x.Bt,x.Ak)) ⟨ByteArray.empty,0,[]⟩ rfl true (fun h=>by cases h)
abbrev qjX (x:qi) (p0:Option Addr) (k0:Nat):List Value:=[.string x.Bb,.int .i64 x.Bt,.slice p0 (x.Ak).length k0]
theorem qP {x:qi} {cs:List Value} (h:GoT.R w S x cs):∃ p0 k0,cs=(qjX x p0 k0)∧SlR w S x.Ak p0 k0:=by
 obtain ⟨_,_,rfl,rfl,⟨_,_,rfl,rfl,⟨p0,k0,rfl,s0⟩⟩⟩:=h
 exact ⟨p0,k0,rfl,s0⟩
theorem qgy (x:qi) {p0:Option Addr} {k0:Nat} (s0:SlR w S x.Ak p0 k0):GoT.R w S x (qjX x p0 k0):=have h:=pR (rT x.Bb) (pR (rI x.Bt) (rS s0));h
theorem qqh {w0:World} {L:List Ch} {x:qi} {p0:Option Addr} {l0 k0:Nat} (h:SH w0 w (Ch.own S x [.string x.Bb,.int .i64 x.Bt,.slice p0 l0 k0]::L)):∃ S0,SH w0 w (Ch.own S0 x.Ak [.slice p0 l0 k0]::L):=by
 obtain ⟨hv,ho⟩:=h.headV
 replace ho:GoT.O w S x _:=ho
 obtain ⟨A0,B0,d0,e0,he,o0,ho,a0,b0⟩:=ho
 obtain rfl:=o0
 cases he
 replace hv:=hv.less b0
 obtain ⟨A1,B1,d1,e1,he,o1,ho,a1,b1⟩:=ho
 obtain rfl:=o1
 cases he
 replace hv:=hv.less b1
 obtain ⟨q,m,he,s0⟩:=ho
 cases he
 replace hv:=hv.push (c:=Ch.own B1 x.Ak [_]) (S2:=(fun _=>False)) ⟨_,_,rfl,s0⟩ (fun _ hd=>hd.elim) (fun b hb=>⟨hb,fun h=>h⟩) (fun _ h=>h.elim)
 exact ⟨B1,hv.sh⟩
theorem qpj {w0:World} {L:List Ch} (x:qi) {I0 I1 I2:List Nat} {c0 c1 c2:List Value} (h:SH w0 w L) (h0:PO w L I0 x.Bb c0) (h1:PO w L I1 x.Bt c1) (h2:PO w L I2 x.Ak c2) (b0:apartB I0 (I1++I2)=true) (b1:apartB I1 I2=true):PO w L (I0++(I1++I2)) x (c0++(c1++c2)) :=
 (qbX h h0 (qbX h h1 h2 b1) b0)
structure qK where
 Bb:ByteArray
 Bv:Int
 Bx:Int
instance gt_TPort:GoT qK:=isoT (pairT instStr (pairT instInt instInt)) (fun x=>(x.Bb,x.Bv,x.Bx)) ⟨ByteArray.empty,0,0⟩ rfl true (fun h=>by cases h)
instance fl_TPort:Flat qK:=qhJ (pairT instStr (pairT instInt instInt)) (fun x:qK=>(x.Bb,x.Bv,x.Bx)) ⟨ByteArray.empty,0,0⟩ rfl true (fun h=>by cases h) (qbj _ _ (inferInstanceAs (Flat ByteArray)) (qbj _ _ (inferInstanceAs (Flat Int)) (inferInstanceAs (Flat Int))))
abbrev qqY (x:qK):List Value:=[.string x.Bb,.int .i64 x.Bv,.int .i64 x.Bx]
theorem qaV {x:qK} {cs:List Value} (h:GoT.R w S x cs):cs=(qqY x):=by
 obtain ⟨_,_,rfl,rfl,⟨_,_,rfl,rfl,rfl⟩⟩:=h
 exact rfl
theorem qes (x:qK):GoT.R w S x (qqY x):=have h:=pR (rT x.Bb) (pR (rI x.Bv) (rI x.Bx));h
structure qd where
 Aa:(List qi)
 Ak:(List ByteArray)
 Aj:(List qK)
instance gt_TDesign:GoT qd:=isoT (pairT (@instList qi gt_TInstance) (pairT (@instList ByteArray instStr) (@instList qK gt_TPort))) (fun x=>(x.Aa,x.Ak,x.Aj)) ⟨[],[],[]⟩ rfl true (fun h=>by cases h)
abbrev qaS (x:qd) (p0 p1 p2:Option Addr) (k0 k1 k2:Nat):List Value:=[.slice p0 (x.Aa).length k0,.slice p1 (x.Ak).length k1,.slice p2 (x.Aj).length k2]
theorem qay {x:qd} {cs:List Value} (h:GoT.R w S x cs):∃ p0 k0 p1 k1 p2 k2,cs=(qaS x p0 p1 p2 k0 k1 k2)∧SlR w S x.Aa p0 k0∧SlR w S x.Ak p1 k1∧SlR w S x.Aj p2 k2:=by
 obtain ⟨_,_,rfl,⟨p0,k0,rfl,s0⟩,⟨_,_,rfl,⟨p1,k1,rfl,s1⟩,⟨p2,k2,rfl,s2⟩⟩⟩:=h
 exact ⟨p0,k0,p1,k1,p2,k2,rfl,s0,s1,s2⟩
theorem qar (x:qd) {p0 p1 p2:Option Addr} {k0 k1 k2:Nat} (s0:SlR w S x.Aa p0 k0) (s1:SlR w S x.Ak p1 k1) (s2:SlR w S x.Aj p2 k2):GoT.R w S x (qaS x p0 p1 p2 k0 k1 k2):=have h:=pR (rS s0) (pR (rS s1) (rS s2));h
theorem qsf {w0:World} {L:List Ch} {x:qd} {p0 p1 p2:Option Addr} {l0 k0 l1 k1 l2 k2:Nat} (h:SH w0 w (Ch.own S x [.slice p0 l0 k0,.slice p1 l1 k1,.slice p2 l2 k2]::L)):∃ S0 S1 S2,SH w0 w (Ch.own S2 x.Aj [.slice p2 l2 k2]::Ch.own S1 x.Ak [.slice p1 l1 k1]::Ch.own S0 x.Aa [.slice p0 l0 k0]::L):=by
 obtain ⟨hv,ho⟩:=h.headV
 replace ho:GoT.O w S x _:=ho
 obtain ⟨A0,B0,d0,e0,he,o0,ho,a0,b0⟩:=ho
 obtain ⟨q,m,rfl,s0⟩:=o0
 cases he
 replace hv:=hv.push (c:=Ch.own A0 x.Aa [_]) (S2:=B0) ⟨_,_,rfl,s0⟩ (fun _ hd=>hd.elim) a0 b0
 obtain ⟨A1,B1,d1,e1,he,o1,ho,a1,b1⟩:=ho
 obtain ⟨q,m,rfl,s1⟩:=o1
 cases he
 replace hv:=hv.push (c:=Ch.own A1 x.Ak [_]) (S2:=B1) ⟨_,_,rfl,s1⟩ (fun _ hd=>hd.elim) a1 b1
 obtain ⟨q,m,he,s2⟩:=ho
 cases he
 replace hv:=hv.push (c:=Ch.own B1 x.Aj [_]) (S2:=(fun _=>False)) ⟨_,_,rfl,s2⟩ (fun _ hd=>hd.elim) (fun b hb=>⟨hb,fun h=>h⟩) (fun _ h=>h.elim)
 exact ⟨A0,A1,B1,hv.sh⟩
theorem qu0 {w0:World} {L:List Ch} (x:qd) {I0 I1 I2:List Nat} {c0 c1 c2:List Value} (h:SH w0 w L) (h0:PO w L I0 x.Aa c0) (h1:PO w L I1 x.Ak c1) (h2:PO w L I2 x.Aj c2) (b0:apartB I0 (I1++I2)=true) (b1:apartB I1 I2=true):PO w L (I0++(I1++I2)) x (c0++(c1++c2)) :=
 (qbX h h0 (qbX h h1 h2 b1) b0)
structure qD where
 Am:(List Int)
 Bw:(List Int)
 Bs:(List Int)
 Bl:(List Int)
instance gt_TWire:GoT qD:=isoT (pairT (@instList Int instInt) (pairT (@instList Int instInt) (pairT (@instList Int instInt) (@instList Int instInt)))) (fun x=>(x.Am,x.Bw,x.Bs,x.Bl)) ⟨[],[],[],[]⟩ rfl true (fun h=>by cases h)
abbrev qgI (x:qD) (p0 p1 p2 p3:Option Addr) (k0 k1 k2 k3:Nat):List Value:=[.slice p0 (x.Am).length k0,.slice p1 (x.Bw).length k1,.slice p2 (x.Bs).length k2,.slice p3 (x.Bl).length k3]
theorem qaN {x:qD} {cs:List Value} (h:GoT.R w S x cs):∃ p0 k0 p1 k1 p2 k2 p3 k3,cs=(qgI x p0 p1 p2 p3 k0 k1 k2 k3)∧SlR w S x.Am p0 k0∧SlR w S x.Bw p1 k1∧SlR w S x.Bs p2 k2∧SlR w S x.Bl p3 k3:=by
 obtain ⟨_,_,rfl,⟨p0,k0,rfl,s0⟩,⟨_,_,rfl,⟨p1,k1,rfl,s1⟩,⟨_,_,rfl,⟨p2,k2,rfl,s2⟩,⟨p3,k3,rfl,s3⟩⟩⟩⟩:=h
 exact ⟨p0,k0,p1,k1,p2,k2,p3,k3,rfl,s0,s1,s2,s3⟩
theorem qkC (x:qD) {p0 p1 p2 p3:Option Addr} {k0 k1 k2 k3:Nat} (s0:SlR w S x.Am p0 k0) (s1:SlR w S x.Bw p1 k1) (s2:SlR w S x.Bs p2 k2) (s3:SlR w S x.Bl p3 k3):GoT.R w S x (qgI x p0 p1 p2 p3 k0 k1 k2 k3):=have h:=pR (rS s0) (pR (rS s1) (pR (rS s2) (rS s3)));h
theorem quH {w0:World} {L:List Ch} {x:qD} {p0 p1 p2 p3:Option Addr} {l0 k0 l1 k1 l2 k2 l3 k3:Nat} (h:SH w0 w (Ch.own S x [.slice p0 l0 k0,.slice p1 l1 k1,.slice p2 l2 k2,.slice p3 l3 k3]::L)):∃ S0 S1 S2 S3,SH w0 w (Ch.own S3 x.Bl [.slice p3 l3 k3]::Ch.own S2 x.Bs [.slice p2 l2 k2]::Ch.own S1 x.Bw [.slice p1 l1 k1]::Ch.own S0 x.Am [.slice p0 l0 k0]::L):=by
 obtain ⟨hv,ho⟩:=h.headV
 replace ho:GoT.O w S x _:=ho
 obtain ⟨A0,B0,d0,e0,he,o0,ho,a0,b0⟩:=ho
 obtain ⟨q,m,rfl,s0⟩:=o0
 cases he
 replace hv:=hv.push (c:=Ch.own A0 x.Am [_]) (S2:=B0) ⟨_,_,rfl,s0⟩ (fun _ hd=>hd.elim) a0 b0
 obtain ⟨A1,B1,d1,e1,he,o1,ho,a1,b1⟩:=ho
 obtain ⟨q,m,rfl,s1⟩:=o1
 cases he
 replace hv:=hv.push (c:=Ch.own A1 x.Bw [_]) (S2:=B1) ⟨_,_,rfl,s1⟩ (fun _ hd=>hd.elim) a1 b1
 obtain ⟨A2,B2,d2,e2,he,o2,ho,a2,b2⟩:=ho
 obtain ⟨q,m,rfl,s2⟩:=o2
 cases he
 replace hv:=hv.push (c:=Ch.own A2 x.Bs [_]) (S2:=B2) ⟨_,_,rfl,s2⟩ (fun _ hd=>hd.elim) a2 b2
 obtain ⟨q,m,he,s3⟩:=ho
 cases he
 replace hv:=hv.push (c:=Ch.own B2 x.Bl [_]) (S2:=(fun _=>False)) ⟨_,_,rfl,s3⟩ (fun _ hd=>hd.elim) (fun b hb=>⟨hb,fun h=>h⟩) (fun _ h=>h.elim)
 exact ⟨A0,A1,A2,B2,hv.sh⟩
theorem qtM {w0:World} {L:List Ch} (x:qD) {I0 I1 I2 I3:List Nat} {c0 c1 c2 c3:List Value} (h:SH w0 w L) (h0:PO w L I0 x.Am c0) (h1:PO w L I1 x.Bw c1) (h2:PO w L I2 x.Bs c2) (h3:PO w L I3 x.Bl c3) (b0:apartB I0 (I1++(I2++I3))=true) (b1:apartB I1 (I2++I3)=true) (b2:apartB I2 I3=true):PO w L (I0++(I1++(I2++I3))) x (c0++(c1++(c2++c3))) :=
 (qbX h h0 (qbX h h1 (qbX h h2 h3 b2) b1) b0)
structure qg where
 Av:qn
 Ab:qd
 Ac:(List qD)
instance gt_TBlock:GoT qg:=isoT (pairT gt_TLibrary (pairT gt_TDesign (@instList qD gt_TWire))) (fun x=>(x.Av,x.Ab,x.Ac)) ⟨(⟨[]⟩:qn),(⟨[],[],[]⟩:qd),[]⟩ rfl true (fun h=>by cases h)
abbrev qa1 (x:qg) (p0 p1 p2 p3 p4:Option Addr) (k0 k1 k2 k3 k4:Nat):List Value:=[.slice p0 (x.Av.As).length k0,.slice p1 (x.Ab.Aa).length k1,.slice p2 (x.Ab.Ak).length k2,.slice p3 (x.Ab.Aj).length k3,.slice p4 (x.Ac).length k4]
theorem qac {x:qg} {cs:List Value} (h:GoT.R w S x cs):∃ p0 k0 p1 k1 p2 k2 p3 k3 p4 k4,cs=(qa1 x p0 p1 p2 p3 p4 k0 k1 k2 k3 k4)∧SlR w S x.Av.As p0 k0∧SlR w S x.Ab.Aa p1 k1∧SlR w S x.Ab.Ak p2 k2∧SlR w S x.Ab.Aj p3 k3∧SlR w S x.Ac p4 k4:=by
 obtain ⟨_,_,rfl,⟨p0,k0,rfl,s0⟩,⟨_,_,rfl,⟨_,_,rfl,⟨p1,k1,rfl,s1⟩,⟨_,_,rfl,⟨p2,k2,rfl,s2⟩,⟨p3,k3,rfl,s3⟩⟩⟩,⟨p4,k4,rfl,s4⟩⟩⟩:=h
 exact ⟨p0,k0,p1,k1,p2,k2,p3,k3,p4,k4,rfl,s0,s1,s2,s3,s4⟩
theorem qfu (x:qg) {p0 p1 p2 p3 p4:Option Addr} {k0 k1 k2 k3 k4:Nat} (s0:SlR w S x.Av.As p0 k0) (s1:SlR w S x.Ab.Aa p1 k1) (s2:SlR w S x.Ab.Ak p2 k2) (s3:SlR w S x.Ab.Aj p3 k3) (s4:SlR w S x.Ac p4 k4):GoT.R w S x (qa1 x p0 p1 p2 p3 p4 k0 k1 k2 k3 k4):=have h:=pR (qd9 x.Av s0) (pR (qar x.Ab s1 s2 s3) (rS s4));h
theorem qsa {w0:World} {L:List Ch} {x:qg} {p0 p1 p2 p3 p4:Option Addr} {l0 k0 l1 k1 l2 k2 l3 k3 l4 k4:Nat} (h:SH w0 w (Ch.own S x [.slice p0 l0 k0,.slice p1 l1 k1,.slice p2 l2 k2,.slice p3 l3 k3,.slice p4 l4 k4]::L)):∃ S0 S1 S2,SH w0 w (Ch.own S2 x.Ac [.slice p4 l4 k4]::Ch.own S1 x.Ab [.slice p1 l1 k1,.slice p2 l2 k2,.slice p3 l3 k3]::Ch.own S0 x.Av [.slice p0 l0 k0]::L):=by
 obtain ⟨hv,ho⟩:=h.headV
 replace ho:GoT.O w S x _:=ho
 obtain ⟨A0,B0,d0,e0,he0,o0,ho,a0,b0⟩:=ho
 have hl0:d0.length=1:=GoT.len (GoT.toR o0)
 obtain ⟨rfl,rfl⟩:d0=[.slice p0 l0 k0]∧e0=[.slice p1 l1 k1,.slice p2 l2 k2,.slice p3 l3 k3,.slice p4 l4 k4]:=by
  have:=List.append_inj (show [.slice p0 l0 k0]++[.slice p1 l1 k1,.slice p2 l2 k2,.slice p3 l3 k3,.slice p4 l4 k4]=d0++e0 from he0) (by rw [hl0];rfl)
  exact ⟨this.1.symm,this.2.symm⟩
 replace hv:=hv.push (c:=Ch.own A0 x.Av [.slice p0 l0 k0]) (S2:=B0) o0 (fun _ hd=>hd.elim) a0 b0
 obtain ⟨A1,B1,d1,e1,he1,o1,ho,a1,b1⟩:=ho
 have hl1:d1.length=3:=GoT.len (GoT.toR o1)
 obtain ⟨rfl,rfl⟩:d1=[.slice p1 l1 k1,.slice p2 l2 k2,.slice p3 l3 k3]∧e1=[.slice p4 l4 k4]:=by
  have:=List.append_inj (show [.slice p1 l1 k1,.slice p2 l2 k2,.slice p3 l3 k3]++[.slice p4 l4 k4]=d1++e1 from he1) (by rw [hl1];rfl)
  exact ⟨this.1.symm,this.2.symm⟩
 replace hv:=hv.push (c:=Ch.own A1 x.Ab [.slice p1 l1 k1,.slice p2 l2 k2,.slice p3 l3 k3]) (S2:=B1) o1 (fun _ hd=>hd.elim) a1 b1
 replace hv:=hv.push (c:=Ch.own B1 x.Ac [.slice p4 l4 k4]) (S2:=(fun _=>False)) ho (fun _ hd=>hd.elim) (fun b hb=>⟨hb,fun h=>h⟩) (fun _ h=>h.elim)
 exact ⟨A0,A1,B1,hv.sh⟩
theorem qwr {w0:World} {L:List Ch} (x:qg) {I0 I1 I2:List Nat} {c0 c1 c2:List Value} (h:SH w0 w L) (h0:PO w L I0 x.Av c0) (h1:PO w L I1 x.Ab c1) (h2:PO w L I2 x.Ac c2) (b0:apartB I0 (I1++I2)=true) (b1:apartB I1 I2=true):PO w L (I0++(I1++I2)) x (c0++(c1++c2)) :=
 (qbX h h0 (qbX h h1 h2 b1) b0)
structure qt where
 Bb:ByteArray
 Ar:Int
 Az:Int
 Aq:Int
 Ba:Int
instance gt_TCorner:GoT qt:=isoT (pairT instStr (pairT instInt (pairT instInt (pairT instInt instInt)))) (fun x=>(x.Bb,x.Ar,x.Az,x.Aq,x.Ba)) ⟨ByteArray.empty,0,0,0,0⟩ rfl true (fun h=>by cases h)
instance fl_TCorner:Flat qt:=qhJ (pairT instStr (pairT instInt (pairT instInt (pairT instInt instInt)))) (fun x:qt=>(x.Bb,x.Ar,x.Az,x.Aq,x.Ba)) ⟨ByteArray.empty,0,0,0,0⟩ rfl true (fun h=>by cases h) (qbj _ _ (inferInstanceAs (Flat ByteArray)) (qbj _ _ (inferInstanceAs (Flat Int)) (qbj _ _ (inferInstanceAs (Flat Int)) (qbj _ _ (inferInstanceAs (Flat Int)) (inferInstanceAs (Flat Int))))))
abbrev qb2 (x:qt):List Value:=[.string x.Bb,.int .i64 x.Ar,.int .i64 x.Az,.int .i64 x.Aq,.int .i64 x.Ba]
theorem qaJ {x:qt} {cs:List Value} (h:GoT.R w S x cs):cs=(qb2 x):=by
 obtain ⟨_,_,rfl,rfl,⟨_,_,rfl,rfl,⟨_,_,rfl,rfl,⟨_,_,rfl,rfl,rfl⟩⟩⟩⟩:=h
 exact rfl
theorem qc6 (x:qt):GoT.R w S x (qb2 x):=have h:=pR (rT x.Bb) (pR (rI x.Ar) (pR (rI x.Az) (pR (rI x.Aq) (rI x.Ba))));h
structure qf where
 Ap:Int
 Be:Int
instance gt_TSpan:GoT qf:=isoT (pairT instInt instInt) (fun x=>(x.Ap,x.Be)) ⟨0,0⟩ rfl true (fun h=>by cases h)
instance fl_TSpan:Flat qf:=qhJ (pairT instInt instInt) (fun x:qf=>(x.Ap,x.Be)) ⟨0,0⟩ rfl true (fun h=>by cases h) (qbj _ _ (inferInstanceAs (Flat Int)) (inferInstanceAs (Flat Int)))
abbrev qh4 (x:qf):List Value:=[.int .i64 x.Ap,.int .i64 x.Be]
theorem qz {x:qf} {cs:List Value} (h:GoT.R w S x cs):cs=(qh4 x):=by
 obtain ⟨_,_,rfl,rfl,rfl⟩:=h
 exact rfl
theorem qA (x:qf):GoT.R w S x (qh4 x):=have h:=pR (rI x.Ap) (rI x.Be);h
structure qe where
 Bq:Int
 Ai:qf
 Bc:qf
instance gt_TSource:GoT qe:=isoT (pairT instInt (pairT gt_TSpan gt_TSpan)) (fun x=>(x.Bq,x.Ai,x.Bc)) ⟨0,(⟨0,0⟩:qf),(⟨0,0⟩:qf)⟩ rfl true (fun h=>by cases h)
instance fl_TSource:Flat qe:=qhJ (pairT instInt (pairT gt_TSpan gt_TSpan)) (fun x:qe=>(x.Bq,x.Ai,x.Bc)) ⟨0,(⟨0,0⟩:qf),(⟨0,0⟩:qf)⟩ rfl true (fun h=>by cases h) (qbj _ _ (inferInstanceAs (Flat Int)) (qbj _ _ (inferInstanceAs (Flat qf)) (inferInstanceAs (Flat qf))))
abbrev qfG (x:qe):List Value:=[.int .i64 x.Bq,.int .i64 x.Ai.Ap,.int .i64 x.Ai.Be,.int .i64 x.Bc.Ap,.int .i64 x.Bc.Be]
theorem qE {x:qe} {cs:List Value} (h:GoT.R w S x cs):cs=(qfG x):=by
 obtain ⟨_,_,rfl,rfl,⟨_,_,rfl,⟨_,_,rfl,rfl,rfl⟩,⟨_,_,rfl,rfl,rfl⟩⟩⟩:=h
 exact rfl
theorem qaB (x:qe):GoT.R w S x (qfG x):=have h:=pR (rI x.Bq) (pR (qA x.Ai) (qA x.Bc));h
structure qaW where
 Af:qg
 Ah:qt
 Bi:(List Int)
 Ay:(List qe)
instance gt_TJob:GoT qaW:=isoT (pairT gt_TBlock (pairT gt_TCorner (pairT (@instList Int instInt) (@instList qe gt_TSource)))) (fun x=>(x.Af,x.Ah,x.Bi,x.Ay)) ⟨(⟨(⟨[]⟩:qn),(⟨[],[],[]⟩:qd),[]⟩:qg),(⟨ByteArray.empty,0,0,0,0⟩:qt),[],[]⟩ rfl true (fun h=>by cases h)
abbrev qmC (x:qaW) (p0 p1 p2 p3 p4 p5 p6:Option Addr) (k0 k1 k2 k3 k4 k5 k6:Nat):List Value:=[.slice p0 (x.Af.Av.As).length k0,.slice p1 (x.Af.Ab.Aa).length k1,.slice p2 (x.Af.Ab.Ak).length k2,.slice p3 (x.Af.Ab.Aj).length k3,.slice p4 (x.Af.Ac).length k4,.string x.Ah.Bb,.int .i64 x.Ah.Ar,.int .i64 x.Ah.Az,.int .i64 x.Ah.Aq,.int .i64 x.Ah.Ba,.slice p5 (x.Bi).length k5,.slice p6 (x.Ay).length k6]
theorem qcX {x:qaW} {cs:List Value} (h:GoT.R w S x cs):∃ p0 k0 p1 k1 p2 k2 p3 k3 p4 k4 p5 k5 p6 k6,cs=(qmC x p0 p1 p2 p3 p4 p5 p6 k0 k1 k2 k3 k4 k5 k6)∧SlR w S x.Af.Av.As p0 k0∧SlR w S x.Af.Ab.Aa p1 k1∧SlR w S x.Af.Ab.Ak p2 k2∧SlR w S x.Af.Ab.Aj p3 k3∧SlR w S x.Af.Ac p4 k4∧SlR w S x.Bi p5 k5∧SlR w S x.Ay p6 k6:=by
 obtain ⟨_,_,rfl,⟨_,_,rfl,⟨p0,k0,rfl,s0⟩,⟨_,_,rfl,⟨_,_,rfl,⟨p1,k1,rfl,s1⟩,⟨_,_,rfl,⟨p2,k2,rfl,s2⟩,⟨p3,k3,rfl,s3⟩⟩⟩,⟨p4,k4,rfl,s4⟩⟩⟩,⟨_,_,rfl,⟨_,_,rfl,rfl,⟨_,_,rfl,rfl,⟨_,_,rfl,rfl,⟨_,_,rfl,rfl,rfl⟩⟩⟩⟩,⟨_,_,rfl,⟨p5,k5,rfl,s5⟩,⟨p6,k6,rfl,s6⟩⟩⟩⟩:=h
 exact ⟨p0,k0,p1,k1,p2,k2,p3,k3,p4,k4,p5,k5,p6,k6,rfl,s0,s1,s2,s3,s4,s5,s6⟩
theorem qyd (x:qaW) {p0 p1 p2 p3 p4 p5 p6:Option Addr} {k0 k1 k2 k3 k4 k5 k6:Nat} (s0:SlR w S x.Af.Av.As p0 k0) (s1:SlR w S x.Af.Ab.Aa p1 k1) (s2:SlR w S x.Af.Ab.Ak p2 k2) (s3:SlR w S x.Af.Ab.Aj p3 k3) (s4:SlR w S x.Af.Ac p4 k4) (s5:SlR w S x.Bi p5 k5) (s6:SlR w S x.Ay p6 k6):GoT.R w S x (qmC x p0 p1 p2 p3 p4 p5 p6 k0 k1 k2 k3 k4 k5 k6):=have h:=pR (qfu x.Af s0 s1 s2 s3 s4) (pR (qc6 x.Ah) (pR (rS s5) (rS s6)));h
theorem quJ {w0:World} {L:List Ch} {x:qaW} {p0 p1 p2 p3 p4 p5 p6:Option Addr} {l0 k0 l1 k1 l2 k2 l3 k3 l4 k4 l5 k5 l6 k6:Nat} (h:SH w0 w (Ch.own S x [.slice p0 l0 k0,.slice p1 l1 k1,.slice p2 l2 k2,.slice p3 l3 k3,.slice p4 l4 k4,.string x.Ah.Bb,.int .i64 x.Ah.Ar,.int .i64 x.Ah.Az,.int .i64 x.Ah.Aq,.int .i64 x.Ah.Ba,.slice p5 l5 k5,.slice p6 l6 k6]::L)):∃ S0 S2 S3,SH w0 w (Ch.own S3 x.Ay [.slice p6 l6 k6]::Ch.own S2 x.Bi [.slice p5 l5 k5]::Ch.own S0 x.Af [.slice p0 l0 k0,.slice p1 l1 k1,.slice p2 l2 k2,.slice p3 l3 k3,.slice p4 l4 k4]::L):=by
 obtain ⟨hv,ho⟩:=h.headV
 replace ho:GoT.O w S x _:=ho
 obtain ⟨A0,B0,d0,e0,he0,o0,ho,a0,b0⟩:=ho
 have hl0:d0.length=5:=GoT.len (GoT.toR o0)
 obtain ⟨rfl,rfl⟩:d0=[.slice p0 l0 k0,.slice p1 l1 k1,.slice p2 l2 k2,.slice p3 l3 k3,.slice p4 l4 k4]∧e0=[.string x.Ah.Bb,.int .i64 x.Ah.Ar,.int .i64 x.Ah.Az,.int .i64 x.Ah.Aq,.int .i64 x.Ah.Ba,.slice p5 l5 k5,.slice p6 l6 k6]:=by
  have:=List.append_inj (show [.slice p0 l0 k0,.slice p1 l1 k1,.slice p2 l2 k2,.slice p3 l3 k3,.slice p4 l4 k4]++[.string x.Ah.Bb,.int .i64 x.Ah.Ar,.int .i64 x.Ah.Az,.int .i64 x.Ah.Aq,.int .i64 x.Ah.Ba,.slice p5 l5 k5,.slice p6 l6 k6]=d0++e0 from he0) (by rw [hl0];rfl)
  exact ⟨this.1.symm,this.2.symm⟩
 replace hv:=hv.push (c:=Ch.own A0 x.Af [.slice p0 l0 k0,.slice p1 l1 k1,.slice p2 l2 k2,.slice p3 l3 k3,.slice p4 l4 k4]) (S2:=B0) o0 (fun _ hd=>hd.elim) a0 b0
 obtain ⟨A1,B1,d1,e1,he1,o1,ho,a1,b1⟩:=ho
 have hl1:d1.length=5:=GoT.len (GoT.toR o1)
 obtain ⟨rfl,rfl⟩:d1=[.string x.Ah.Bb,.int .i64 x.Ah.Ar,.int .i64 x.Ah.Az,.int .i64 x.Ah.Aq,.int .i64 x.Ah.Ba]∧e1=[.slice p5 l5 k5,.slice p6 l6 k6]:=by
  have:=List.append_inj (show [.string x.Ah.Bb,.int .i64 x.Ah.Ar,.int .i64 x.Ah.Az,.int .i64 x.Ah.Aq,.int .i64 x.Ah.Ba]++[.slice p5 l5 k5,.slice p6 l6 k6]=d1++e1 from he1) (by rw [hl1];rfl)
  exact ⟨this.1.symm,this.2.symm⟩
 replace hv:=hv.less b1
 obtain ⟨A2,B2,d2,e2,he2,o2,ho,a2,b2⟩:=ho
 have hl2:d2.length=1:=GoT.len (GoT.toR o2)
 obtain ⟨rfl,rfl⟩:d2=[.slice p5 l5 k5]∧e2=[.slice p6 l6 k6]:=by
  have:=List.append_inj (show [.slice p5 l5 k5]++[.slice p6 l6 k6]=d2++e2 from he2) (by rw [hl2];rfl)
  exact ⟨this.1.symm,this.2.symm⟩
 replace hv:=hv.push (c:=Ch.own A2 x.Bi [.slice p5 l5 k5]) (S2:=B2) o2 (fun _ hd=>hd.elim) a2 b2
 replace hv:=hv.push (c:=Ch.own B2 x.Ay [.slice p6 l6 k6]) (S2:=(fun _=>False)) ho (fun _ hd=>hd.elim) (fun b hb=>⟨hb,fun h=>h⟩) (fun _ h=>h.elim)
 exact ⟨A0,A2,B2,hv.sh⟩
theorem qzb {w0:World} {L:List Ch} (x:qaW) {I0 I1 I2 I3:List Nat} {c0 c1 c2 c3:List Value} (h:SH w0 w L) (h0:PO w L I0 x.Af c0) (h1:PO w L I1 x.Ah c1) (h2:PO w L I2 x.Bi c2) (h3:PO w L I3 x.Ay c3) (b0:apartB I0 (I1++(I2++I3))=true) (b1:apartB I1 (I2++I3)=true) (b2:apartB I2 I3=true):PO w L (I0++(I1++(I2++I3))) x (c0++(c1++(c2++c3))) :=
 (qbX h h0 (qbX h h1 (qbX h h2 h3 b2) b1) b0)
structure qu where
 Bk:Int
 To:Int
 Bf:Int
 Bz:Int
instance gt_TLink:GoT qu:=isoT (pairT instInt (pairT instInt (pairT instInt instInt))) (fun x=>(x.Bk,x.To,x.Bf,x.Bz)) ⟨0,0,0,0⟩ rfl true (fun h=>by cases h)
instance fl_TLink:Flat qu:=qhJ (pairT instInt (pairT instInt (pairT instInt instInt))) (fun x:qu=>(x.Bk,x.To,x.Bf,x.Bz)) ⟨0,0,0,0⟩ rfl true (fun h=>by cases h) (qbj _ _ (inferInstanceAs (Flat Int)) (qbj _ _ (inferInstanceAs (Flat Int)) (qbj _ _ (inferInstanceAs (Flat Int)) (inferInstanceAs (Flat Int)))))
abbrev qkt (x:qu):List Value:=[.int .i64 x.Bk,.int .i64 x.To,.int .i64 x.Bf,.int .i64 x.Bz]
theorem qav {x:qu} {cs:List Value} (h:GoT.R w S x cs):cs=(qkt x):=by
 obtain ⟨_,_,rfl,rfl,⟨_,_,rfl,rfl,⟨_,_,rfl,rfl,rfl⟩⟩⟩:=h
 exact rfl
theorem qbZ (x:qu):GoT.R w S x (qkt x):=have h:=pR (rI x.Bk) (pR (rI x.To) (pR (rI x.Bf) (rI x.Bz)));h
structure qy where
 Bg:(List Bool)
 Ai:(List qf)
 Bc:(List qf)
instance gt_TTiming:GoT qy:=isoT (pairT (@instList Bool instBool) (pairT (@instList qf gt_TSpan) (@instList qf gt_TSpan))) (fun x=>(x.Bg,x.Ai,x.Bc)) ⟨[],[],[]⟩ rfl true (fun h=>by cases h)
abbrev qbK (x:qy) (p0 p1 p2:Option Addr) (k0 k1 k2:Nat):List Value:=[.slice p0 (x.Bg).length k0,.slice p1 (x.Ai).length k1,.slice p2 (x.Bc).length k2]
theorem qcN {x:qy} {cs:List Value} (h:GoT.R w S x cs):∃ p0 k0 p1 k1 p2 k2,cs=(qbK x p0 p1 p2 k0 k1 k2)∧SlR w S x.Bg p0 k0∧SlR w S x.Ai p1 k1∧SlR w S x.Bc p2 k2:=by
 obtain ⟨_,_,rfl,⟨p0,k0,rfl,s0⟩,⟨_,_,rfl,⟨p1,k1,rfl,s1⟩,⟨p2,k2,rfl,s2⟩⟩⟩:=h
 exact ⟨p0,k0,p1,k1,p2,k2,rfl,s0,s1,s2⟩
theorem qtW (x:qy) {p0 p1 p2:Option Addr} {k0 k1 k2:Nat} (s0:SlR w S x.Bg p0 k0) (s1:SlR w S x.Ai p1 k1) (s2:SlR w S x.Bc p2 k2):GoT.R w S x (qbK x p0 p1 p2 k0 k1 k2):=have h:=pR (rS s0) (pR (rS s1) (rS s2));h
theorem qhL {w0:World} {L:List Ch} {x:qy} {p0 p1 p2:Option Addr} {l0 k0 l1 k1 l2 k2:Nat} (h:SH w0 w (Ch.own S x [.slice p0 l0 k0,.slice p1 l1 k1,.slice p2 l2 k2]::L)):∃ S0 S1 S2,SH w0 w (Ch.own S2 x.Bc [.slice p2 l2 k2]::Ch.own S1 x.Ai [.slice p1 l1 k1]::Ch.own S0 x.Bg [.slice p0 l0 k0]::L):=by
 obtain ⟨hv,ho⟩:=h.headV
 replace ho:GoT.O w S x _:=ho
 obtain ⟨A0,B0,d0,e0,he,o0,ho,a0,b0⟩:=ho
 obtain ⟨q,m,rfl,s0⟩:=o0
 cases he
 replace hv:=hv.push (c:=Ch.own A0 x.Bg [_]) (S2:=B0) ⟨_,_,rfl,s0⟩ (fun _ hd=>hd.elim) a0 b0
 obtain ⟨A1,B1,d1,e1,he,o1,ho,a1,b1⟩:=ho
 obtain ⟨q,m,rfl,s1⟩:=o1
 cases he
 replace hv:=hv.push (c:=Ch.own A1 x.Ai [_]) (S2:=B1) ⟨_,_,rfl,s1⟩ (fun _ hd=>hd.elim) a1 b1
 obtain ⟨q,m,he,s2⟩:=ho
 cases he
 replace hv:=hv.push (c:=Ch.own B1 x.Bc [_]) (S2:=(fun _=>False)) ⟨_,_,rfl,s2⟩ (fun _ hd=>hd.elim) (fun b hb=>⟨hb,fun h=>h⟩) (fun _ h=>h.elim)
 exact ⟨A0,A1,B1,hv.sh⟩
theorem qf4 {w0:World} {L:List Ch} (x:qy) {I0 I1 I2:List Nat} {c0 c1 c2:List Value} (h:SH w0 w L) (h0:PO w L I0 x.Bg c0) (h1:PO w L I1 x.Ai c1) (h2:PO w L I2 x.Bc c2) (b0:apartB I0 (I1++I2)=true) (b1:apartB I1 I2=true):PO w L (I0++(I1++I2)) x (c0++(c1++c2)) :=
 (qbX h h0 (qbX h h1 h2 b1) b0)
structure Tl20Work where
 j:qaW
 links:(List qu)
 live:(List Bool)
 t:qy
instance gt_Tl20Work:GoT Tl20Work:=isoT (pairT gt_TJob (pairT (@instList qu gt_TLink) (pairT (@instList Bool instBool) gt_TTiming))) (fun x=>(x.j,x.links,x.live,x.t)) ⟨(⟨(⟨(⟨[]⟩:qn),(⟨[],[],[]⟩:qd),[]⟩:qg),(⟨ByteArray.empty,0,0,0,0⟩:qt),[],[]⟩:qaW),[],[],(⟨[],[],[]⟩:qy)⟩ rfl true (fun h=>by cases h)
abbrev qvi (x:Tl20Work) (p0 p1 p2 p3 p4 p5 p6 p7 p8 p9 p10 p11:Option Addr) (k0 k1 k2 k3 k4 k5 k6 k7 k8 k9 k10 k11:Nat):List Value:=[.slice p0 (x.j.Af.Av.As).length k0,.slice p1 (x.j.Af.Ab.Aa).length k1,.slice p2 (x.j.Af.Ab.Ak).length k2,.slice p3 (x.j.Af.Ab.Aj).length k3,.slice p4 (x.j.Af.Ac).length k4,.string x.j.Ah.Bb,.int .i64 x.j.Ah.Ar,.int .i64 x.j.Ah.Az,.int .i64 x.j.Ah.Aq,.int .i64 x.j.Ah.Ba,.slice p5 (x.j.Bi).length k5,.slice p6 (x.j.Ay).length k6,.slice p7 (x.links).length k7,.slice p8 (x.live).length k8,.slice p9 (x.t.Bg).length k9,.slice p10 (x.t.Ai).length k10,.slice p11 (x.t.Bc).length k11]
theorem qju {x:Tl20Work} {cs:List Value} (h:GoT.R w S x cs):∃ p0 k0 p1 k1 p2 k2 p3 k3 p4 k4 p5 k5 p6 k6 p7 k7 p8 k8 p9 k9 p10 k10 p11 k11,cs=(qvi x p0 p1 p2 p3 p4 p5 p6 p7 p8 p9 p10 p11 k0 k1 k2 k3 k4 k5 k6 k7 k8 k9 k10 k11)∧SlR w S x.j.Af.Av.As p0 k0∧SlR w S x.j.Af.Ab.Aa p1 k1∧SlR w S x.j.Af.Ab.Ak p2 k2∧SlR w S x.j.Af.Ab.Aj p3 k3∧SlR w S x.j.Af.Ac p4 k4∧SlR w S x.j.Bi p5 k5∧SlR w S x.j.Ay p6 k6∧SlR w S x.links p7 k7∧SlR w S x.live p8 k8∧SlR w S x.t.Bg p9 k9∧SlR w S x.t.Ai p10 k10∧SlR w S x.t.Bc p11 k11:=by
 obtain ⟨_,_,rfl,⟨_,_,rfl,⟨_,_,rfl,⟨p0,k0,rfl,s0⟩,⟨_,_,rfl,⟨_,_,rfl,⟨p1,k1,rfl,s1⟩,⟨_,_,rfl,⟨p2,k2,rfl,s2⟩,⟨p3,k3,rfl,s3⟩⟩⟩,⟨p4,k4,rfl,s4⟩⟩⟩,⟨_,_,rfl,⟨_,_,rfl,rfl,⟨_,_,rfl,rfl,⟨_,_,rfl,rfl,⟨_,_,rfl,rfl,rfl⟩⟩⟩⟩,⟨_,_,rfl,⟨p5,k5,rfl,s5⟩,⟨p6,k6,rfl,s6⟩⟩⟩⟩,⟨_,_,rfl,⟨p7,k7,rfl,s7⟩,⟨_,_,rfl,⟨p8,k8,rfl,s8⟩,⟨_,_,rfl,⟨p9,k9,rfl,s9⟩,⟨_,_,rfl,⟨p10,k10,rfl,s10⟩,⟨p11,k11,rfl,s11⟩⟩⟩⟩⟩⟩:=h
 exact ⟨p0,k0,p1,k1,p2,k2,p3,k3,p4,k4,p5,k5,p6,k6,p7,k7,p8,k8,p9,k9,p10,k10,p11,k11,rfl,s0,s1,s2,s3,s4,s5,s6,s7,s8,s9,s10,s11⟩
structure Tplace where
 instance_:Int
 pin:Int
 net:Int
 drives:Bool
instance gt_Tplace:GoT Tplace:=isoT (pairT instInt (pairT instInt (pairT instInt instBool))) (fun x=>(x.instance_,x.pin,x.net,x.drives)) ⟨0,0,0,false⟩ rfl true (fun h=>by cases h)
instance fl_Tplace:Flat Tplace:=qhJ (pairT instInt (pairT instInt (pairT instInt instBool))) (fun x:Tplace=>(x.instance_,x.pin,x.net,x.drives)) ⟨0,0,0,false⟩ rfl true (fun h=>by cases h) (qbj _ _ (inferInstanceAs (Flat Int)) (qbj _ _ (inferInstanceAs (Flat Int)) (qbj _ _ (inferInstanceAs (Flat Int)) (inferInstanceAs (Flat Bool)))))
abbrev qrO (x:Tplace):List Value:=[.int .i64 x.instance_,.int .i64 x.pin,.int .i64 x.net,.bool x.drives]
theorem qgW {x:Tplace} {cs:List Value} (h:GoT.R w S x cs):cs=(qrO x):=by
 obtain ⟨_,_,rfl,rfl,⟨_,_,rfl,rfl,⟨_,_,rfl,rfl,rfl⟩⟩⟩:=h
 exact rfl
theorem qmq (x:Tplace):GoT.R w S x (qrO x):=have h:=pR (rI x.instance_) (pR (rI x.pin) (pR (rI x.net) (rB x.drives)));h
structure Tview where
 Af:qg
 places:(List Tplace)
 links:(List qu)
 loads:(List Int)
 delays:(List (List Int))
 extras:(List Int)
instance gt_Tview:GoT Tview:=isoT (pairT gt_TBlock (pairT (@instList Tplace gt_Tplace) (pairT (@instList qu gt_TLink) (pairT (@instList Int instInt) (pairT (@instList (List Int) (@instList Int instInt)) (@instList Int instInt)))))) (fun x=>(x.Af,x.places,x.links,x.loads,x.delays,x.extras)) ⟨(⟨(⟨[]⟩:qn),(⟨[],[],[]⟩:qd),[]⟩:qg),[],[],[],[],[]⟩ rfl true (fun h=>by cases h)
abbrev qyu (x:Tview) (p0 p1 p2 p3 p4 p5 p6 p7 p8 p9:Option Addr) (k0 k1 k2 k3 k4 k5 k6 k7 k8 k9:Nat):List Value:=[.slice p0 (x.Af.Av.As).length k0,.slice p1 (x.Af.Ab.Aa).length k1,.slice p2 (x.Af.Ab.Ak).length k2,.slice p3 (x.Af.Ab.Aj).length k3,.slice p4 (x.Af.Ac).length k4,.slice p5 (x.places).length k5,.slice p6 (x.links).length k6,.slice p7 (x.loads).length k7,.slice p8 (x.delays).length k8,.slice p9 (x.extras).length k9]
theorem qbP {x:Tview} {cs:List Value} (h:GoT.R w S x cs):∃ p0 k0 p1 k1 p2 k2 p3 k3 p4 k4 p5 k5 p6 k6 p7 k7 p8 k8 p9 k9,cs=(qyu x p0 p1 p2 p3 p4 p5 p6 p7 p8 p9 k0 k1 k2 k3 k4 k5 k6 k7 k8 k9)∧SlR w S x.Af.Av.As p0 k0∧SlR w S x.Af.Ab.Aa p1 k1∧SlR w S x.Af.Ab.Ak p2 k2∧SlR w S x.Af.Ab.Aj p3 k3∧SlR w S x.Af.Ac p4 k4∧SlR w S x.places p5 k5∧SlR w S x.links p6 k6∧SlR w S x.loads p7 k7∧SlR w S x.delays p8 k8∧SlR w S x.extras p9 k9:=by
 obtain ⟨_,_,rfl,⟨_,_,rfl,⟨p0,k0,rfl,s0⟩,⟨_,_,rfl,⟨_,_,rfl,⟨p1,k1,rfl,s1⟩,⟨_,_,rfl,⟨p2,k2,rfl,s2⟩,⟨p3,k3,rfl,s3⟩⟩⟩,⟨p4,k4,rfl,s4⟩⟩⟩,⟨_,_,rfl,⟨p5,k5,rfl,s5⟩,⟨_,_,rfl,⟨p6,k6,rfl,s6⟩,⟨_,_,rfl,⟨p7,k7,rfl,s7⟩,⟨_,_,rfl,⟨p8,k8,rfl,s8⟩,⟨p9,k9,rfl,s9⟩⟩⟩⟩⟩⟩:=h
 exact ⟨p0,k0,p1,k1,p2,k2,p3,k3,p4,k4,p5,k5,p6,k6,p7,k7,p8,k8,p9,k9,rfl,s0,s1,s2,s3,s4,s5,s6,s7,s8,s9⟩
structure Tgraph where
 view:(Option Tview)
 live:(List Bool)
instance gt_Tgraph:GoT Tgraph:=isoT (pairT (@instPtr Tview gt_Tview) (@instList Bool instBool)) (fun x=>(x.view,x.live)) ⟨none,[]⟩ rfl true (fun h=>by cases h)
abbrev qyc (x:Tgraph) (p0 p1:Option Addr) (k1:Nat):List Value:=[.pointer p0,.slice p1 (x.live).length k1]
theorem qdw {x:Tgraph} {cs:List Value} (h:GoT.R w S x cs):∃ p0 p1 k1,cs=(qyc x p0 p1 k1)∧PtR w S x.view p0∧SlR w S x.live p1 k1:=by
 obtain ⟨_,_,rfl,t0,⟨p1,k1,rfl,s1⟩⟩:=h
 obtain ⟨p0,rfl,s0⟩:=qaq t0
 exact ⟨p0,p1,k1,rfl,s0,s1⟩
structure Twork where
 graph:(Option Tgraph)
 job:qaW
 timing:qy
 order:(List Int)
instance gt_Twork:GoT Twork:=isoT (pairT (@instPtr Tgraph gt_Tgraph) (pairT gt_TJob (pairT gt_TTiming (@instList Int instInt)))) (fun x=>(x.graph,x.job,x.timing,x.order)) ⟨none,(⟨(⟨(⟨[]⟩:qn),(⟨[],[],[]⟩:qd),[]⟩:qg),(⟨ByteArray.empty,0,0,0,0⟩:qt),[],[]⟩:qaW),(⟨[],[],[]⟩:qy),[]⟩ rfl true (fun h=>by cases h)
abbrev qy4 (x:Twork) (p0 p1 p2 p3 p4 p5 p6 p7 p8 p9 p10 p11:Option Addr) (k1 k2 k3 k4 k5 k6 k7 k8 k9 k10 k11:Nat):List Value:=[.pointer p0,.slice p1 (x.job.Af.Av.As).length k1,.slice p2 (x.job.Af.Ab.Aa).length k2,.slice p3 (x.job.Af.Ab.Ak).length k3,.slice p4 (x.job.Af.Ab.Aj).length k4,.slice p5 (x.job.Af.Ac).length k5,.string x.job.Ah.Bb,.int .i64 x.job.Ah.Ar,.int .i64 x.job.Ah.Az,.int .i64 x.job.Ah.Aq,.int .i64 x.job.Ah.Ba,.slice p6 (x.job.Bi).length k6,.slice p7 (x.job.Ay).length k7,.slice p8 (x.timing.Bg).length k8,.slice p9 (x.timing.Ai).length k9,.slice p10 (x.timing.Bc).length k10,.slice p11 (x.order).length k11]
theorem qmw {x:Twork} {cs:List Value} (h:GoT.R w S x cs):∃ p0 p1 k1 p2 k2 p3 k3 p4 k4 p5 k5 p6 k6 p7 k7 p8 k8 p9 k9 p10 k10 p11 k11,cs=(qy4 x p0 p1 p2 p3 p4 p5 p6 p7 p8 p9 p10 p11 k1 k2 k3 k4 k5 k6 k7 k8 k9 k10 k11)∧PtR w S x.graph p0∧SlR w S x.job.Af.Av.As p1 k1∧SlR w S x.job.Af.Ab.Aa p2 k2∧SlR w S x.job.Af.Ab.Ak p3 k3∧SlR w S x.job.Af.Ab.Aj p4 k4∧SlR w S x.job.Af.Ac p5 k5∧SlR w S x.job.Bi p6 k6∧SlR w S x.job.Ay p7 k7∧SlR w S x.timing.Bg p8 k8∧SlR w S x.timing.Ai p9 k9∧SlR w S x.timing.Bc p10 k10∧SlR w S x.order p11 k11:=by
 obtain ⟨_,_,rfl,t0,⟨_,_,rfl,⟨_,_,rfl,⟨_,_,rfl,⟨p1,k1,rfl,s1⟩,⟨_,_,rfl,⟨_,_,rfl,⟨p2,k2,rfl,s2⟩,⟨_,_,rfl,⟨p3,k3,rfl,s3⟩,⟨p4,k4,rfl,s4⟩⟩⟩,⟨p5,k5,rfl,s5⟩⟩⟩,⟨_,_,rfl,⟨_,_,rfl,rfl,⟨_,_,rfl,rfl,⟨_,_,rfl,rfl,⟨_,_,rfl,rfl,rfl⟩⟩⟩⟩,⟨_,_,rfl,⟨p6,k6,rfl,s6⟩,⟨p7,k7,rfl,s7⟩⟩⟩⟩,⟨_,_,rfl,⟨_,_,rfl,⟨p8,k8,rfl,s8⟩,⟨_,_,rfl,⟨p9,k9,rfl,s9⟩,⟨p10,k10,rfl,s10⟩⟩⟩,⟨p11,k11,rfl,s11⟩⟩⟩⟩:=h
 obtain ⟨p0,rfl,s0⟩:=qaq t0
 exact ⟨p0,p1,k1,p2,k2,p3,k3,p4,k4,p5,k5,p6,k6,p7,k7,p8,k8,p9,k9,p10,k10,p11,k11,rfl,s0,s1,s2,s3,s4,s5,s6,s7,s8,s9,s10,s11⟩
structure Tl05Place where
 instance_:Int
 pin:Int
 net:Int
 drives:Bool
instance gt_Tl05Place:GoT Tl05Place:=isoT (pairT instInt (pairT instInt (pairT instInt instBool))) (fun x=>(x.instance_,x.pin,x.net,x.drives)) ⟨0,0,0,false⟩ rfl true (fun h=>by cases h)
instance fl_Tl05Place:Flat Tl05Place:=qhJ (pairT instInt (pairT instInt (pairT instInt instBool))) (fun x:Tl05Place=>(x.instance_,x.pin,x.net,x.drives)) ⟨0,0,0,false⟩ rfl true (fun h=>by cases h) (qbj _ _ (inferInstanceAs (Flat Int)) (qbj _ _ (inferInstanceAs (Flat Int)) (qbj _ _ (inferInstanceAs (Flat Int)) (inferInstanceAs (Flat Bool)))))
abbrev qlw (x:Tl05Place):List Value:=[.int .i64 x.instance_,.int .i64 x.pin,.int .i64 x.net,.bool x.drives]
theorem qbL {x:Tl05Place} {cs:List Value} (h:GoT.R w S x cs):cs=(qlw x):=by
 obtain ⟨_,_,rfl,rfl,⟨_,_,rfl,rfl,⟨_,_,rfl,rfl,rfl⟩⟩⟩:=h
 exact rfl
theorem qfw (x:Tl05Place):GoT.R w S x (qlw x):=have h:=pR (rI x.instance_) (pR (rI x.pin) (pR (rI x.net) (rB x.drives)));h
structure Tweight where
 index:Int
 part:Int
instance gt_Tweight:GoT Tweight:=isoT (pairT instInt instInt) (fun x=>(x.index,x.part)) ⟨0,0⟩ rfl true (fun h=>by cases h)
instance fl_Tweight:Flat Tweight:=qhJ (pairT instInt instInt) (fun x:Tweight=>(x.index,x.part)) ⟨0,0⟩ rfl true (fun h=>by cases h) (qbj _ _ (inferInstanceAs (Flat Int)) (inferInstanceAs (Flat Int)))
abbrev qpy (x:Tweight):List Value:=[.int .i64 x.index,.int .i64 x.part]
theorem qpl {x:Tweight} {cs:List Value} (h:GoT.R w S x cs):cs=(qpy x):=by
 obtain ⟨_,_,rfl,rfl,rfl⟩:=h
 exact rfl
theorem qnn (x:Tweight):GoT.R w S x (qpy x):=have h:=pR (rI x.index) (rI x.part);h
structure qO where
 e0:Int
 e1:Int
instance gt_TA2_Int:GoT qO:=isoT (pairT instInt instInt) (fun x=>(x.e0,x.e1)) ⟨0,0⟩ rfl true (fun h=>by cases h)
instance fl_TA2_Int:Flat qO:=qhJ (pairT instInt instInt) (fun x:qO=>(x.e0,x.e1)) ⟨0,0⟩ rfl true (fun h=>by cases h) (qbj _ _ (inferInstanceAs (Flat Int)) (inferInstanceAs (Flat Int)))
abbrev qsY (x:qO):List Value:=[.int .i64 x.e0,.int .i64 x.e1]
theorem qtH {x:qO} {cs:List Value} (h:GoT.R w S x cs):cs=(qsY x):=by
 obtain ⟨_,_,rfl,rfl,rfl⟩:=h
 exact rfl
theorem qc3 (x:qO):GoT.R w S x (qsY x):=have h:=pR (rI x.e0) (rI x.e1);h
def tab:Tab:=[
 (2,⟨.int .i64,1,8,some (.int .i64 0),[]⟩),
 (3,⟨.int .i64,1,8,some (.int .i64 0),[]⟩),
 (4,⟨.bool,1,1,some (.bool false),[]⟩),
 (5,⟨.int .u8,1,1,some (.int .u8 0),[]⟩),
 (9,⟨.str,1,16,some (.string ByteArray.empty),[]⟩),
 (22,⟨.slice 223,1,24,some (.slice none 0 0),[]⟩),
 (24,⟨.struct,1,24,some (.agg #[.slice none 0 0]),[(0,1,some false)]⟩),
 (25,⟨.slice 225,1,24,some (.slice none 0 0),[]⟩),
 (26,⟨.slice 9,1,24,some (.slice none 0 0),[]⟩),
 (27,⟨.slice 228,1,24,some (.slice none 0 0),[]⟩),
 (29,⟨.struct,3,72,some (.agg #[.slice none 0 0,.slice none 0 0,.slice none 0 0]),[(0,1,some false),(1,1,some false),(2,1,some false)]⟩),
 (30,⟨.slice 161,1,24,some (.slice none 0 0),[]⟩),
 (32,⟨.struct,5,120,some (.agg #[.slice none 0 0,.slice none 0 0,.slice none 0 0,.slice none 0 0,.slice none 0 0]),[(0,1,some true),(1,3,some true),(4,1,some false)]⟩),
 (34,⟨.struct,5,48,some (.agg #[.string ByteArray.empty,.int .i64 0,.int .i64 0,.int .i64 0,.int .i64 0]),[(0,1,some false),(1,1,some false),(2,1,some false),(3,1,some false),(4,1,some false)]⟩),
 (35,⟨.slice 2,1,24,some (.slice none 0 0),[]⟩),
 (36,⟨.slice 130,1,24,some (.slice none 0 0),[]⟩),
 (38,⟨.struct,12,216,some (.agg #[.slice none 0 0,.slice none 0 0,.slice none 0 0,.slice none 0 0,.slice none 0 0,.string ByteArray.empty,.int .i64 0,.int .i64 0,.int .i64 0,.int .i64 0,.slice none 0 0,.slice none 0 0]),[(0,5,some true),(5,5,some true),(10,1,some false),(11,1,some false)]⟩),
 (42,⟨.slice 168,1,24,some (.slice none 0 0),[]⟩),
 (44,⟨.struct,1,24,some (.agg #[.slice none 0 0]),[(0,1,some false)]⟩),
 (45,⟨.slice 170,1,24,some (.slice none 0 0),[]⟩),
 (46,⟨.slice 245,1,24,some (.slice none 0 0),[]⟩),
 (48,⟨.struct,3,72,some (.agg #[.slice none 0 0,.slice none 0 0,.slice none 0 0]),[(0,1,some false),(1,1,some false),(2,1,some false)]⟩),
 (49,⟨.slice 186,1,24,some (.slice none 0 0),[]⟩),
 (51,⟨.struct,5,120,some (.agg #[.slice none 0 0,.slice none 0 0,.slice none 0 0,.slice none 0 0,.slice none 0 0]),[(0,1,some true),(1,3,some true),(4,1,some false)]⟩),
 (52,⟨.struct,5,48,some (.agg #[.string ByteArray.empty,.int .i64 0,.int .i64 0,.int .i64 0,.int .i64 0]),[(0,1,some false),(1,1,some false),(2,1,some false),(3,1,some false),(4,1,some false)]⟩),
 (53,⟨.slice 116,1,24,some (.slice none 0 0),[]⟩),
 (55,⟨.struct,12,216,some (.agg #[.slice none 0 0,.slice none 0 0,.slice none 0 0,.slice none 0 0,.slice none 0 0,.string ByteArray.empty,.int .i64 0,.int .i64 0,.int .i64 0,.int .i64 0,.slice none 0 0,.slice none 0 0]),[(0,5,some true),(5,5,some true),(10,1,some false),(11,1,some false)]⟩),
 (82,⟨.ptr,1,8,some (.pointer none),[]⟩),
 (86,⟨.struct,2,16,some (.agg #[.int .i64 0,.int .i64 0]),[(0,1,some false),(1,1,some false)]⟩),
 (104,⟨.slice 4,1,24,some (.slice none 0 0),[]⟩),
 (105,⟨.slice 86,1,24,some (.slice none 0 0),[]⟩),
 (107,⟨.struct,3,72,some (.agg #[.slice none 0 0,.slice none 0 0,.slice none 0 0]),[(0,1,some false),(1,1,some false),(2,1,some false)]⟩),
 (110,⟨.slice 121,1,24,some (.slice none 0 0),[]⟩),
 (114,⟨.struct,17,336,some (.agg #[.slice none 0 0,.slice none 0 0,.slice none 0 0,.slice none 0 0,.slice none 0 0,.string ByteArray.empty,.int .i64 0,.int .i64 0,.int .i64 0,.int .i64 0,.slice none 0 0,.slice none 0 0,.slice none 0 0,.slice none 0 0,.slice none 0 0,.slice none 0 0,.slice none 0 0]),[(0,12,some true),(12,1,some false),(13,1,some false),(14,3,some true)]⟩),
 (116,⟨.struct,5,40,some (.agg #[.int .i64 0,.int .i64 0,.int .i64 0,.int .i64 0,.int .i64 0]),[(0,1,some false),(1,2,some true),(3,2,some true)]⟩),
 (121,⟨.struct,4,32,some (.agg #[.int .i64 0,.int .i64 0,.int .i64 0,.int .i64 0]),[(0,1,some false),(1,1,some false),(2,1,some false),(3,1,some false)]⟩),
 (128,⟨.struct,2,16,some (.agg #[.int .i64 0,.int .i64 0]),[(0,1,some false),(1,1,some false)]⟩),
 (130,⟨.struct,5,40,some (.agg #[.int .i64 0,.int .i64 0,.int .i64 0,.int .i64 0,.int .i64 0]),[(0,1,some false),(1,2,some true),(3,2,some true)]⟩),
 (141,⟨.ptr,1,8,some (.pointer none),[]⟩),
 (143,⟨.struct,17,320,some (.agg #[.pointer none,.slice none 0 0,.slice none 0 0,.slice none 0 0,.slice none 0 0,.slice none 0 0,.string ByteArray.empty,.int .i64 0,.int .i64 0,.int .i64 0,.int .i64 0,.slice none 0 0,.slice none 0 0,.slice none 0 0,.slice none 0 0,.slice none 0 0,.slice none 0 0]),[(0,1,some false),(1,12,some true),(13,3,some true),(16,1,some false)]⟩),
 (145,⟨.ptr,1,8,some (.pointer none),[]⟩),
 (147,⟨.struct,2,32,some (.agg #[.pointer none,.slice none 0 0]),[(0,1,some false),(1,1,some false)]⟩),
 (148,⟨.slice 252,1,24,some (.slice none 0 0),[]⟩),
 (149,⟨.slice 35,1,24,some (.slice none 0 0),[]⟩),
 (151,⟨.struct,10,240,some (.agg #[.slice none 0 0,.slice none 0 0,.slice none 0 0,.slice none 0 0,.slice none 0 0,.slice none 0 0,.slice none 0 0,.slice none 0 0,.slice none 0 0,.slice none 0 0]),[(0,5,some true),(5,1,some false),(6,1,some false),(7,1,some false),(8,1,some false),(9,1,some false)]⟩),
 (161,⟨.struct,4,96,some (.agg #[.slice none 0 0,.slice none 0 0,.slice none 0 0,.slice none 0 0]),[(0,1,some false),(1,1,some false),(2,1,some false),(3,1,some false)]⟩),
 (165,⟨.slice 294,1,24,some (.slice none 0 0),[]⟩),
 (166,⟨.slice 173,1,24,some (.slice none 0 0),[]⟩),
 (168,⟨.struct,7,112,some (.agg #[.string ByteArray.empty,.int .i64 0,.slice none 0 0,.slice none 0 0,.slice none 0 0,.int .i64 0,.int .i64 0]),[(0,1,some false),(1,1,some false),(2,1,some false),(3,1,some false),(4,1,some false),(5,1,some false),(6,1,some false)]⟩),
 (170,⟨.struct,3,48,some (.agg #[.string ByteArray.empty,.int .i64 0,.slice none 0 0]),[(0,1,some false),(1,1,some false),(2,1,some false)]⟩),
 (171,⟨.slice 206,1,24,some (.slice none 0 0),[]⟩),
 (173,⟨.struct,6,80,some (.agg #[.int .i64 0,.int .i64 0,.int .i64 0,.int .i64 0,.slice none 0 0,.slice none 0 0]),[(0,1,some false),(1,1,some false),(2,1,some false),(3,1,some false),(4,1,some false),(5,1,some false)]⟩),
 (186,⟨.struct,4,96,some (.agg #[.slice none 0 0,.slice none 0 0,.slice none 0 0,.slice none 0 0]),[(0,1,some false),(1,1,some false),(2,1,some false),(3,1,some false)]⟩),
 (206,⟨.struct,3,72,some (.agg #[.slice none 0 0,.slice none 0 0,.slice none 0 0]),[(0,1,some false),(1,1,some false),(2,1,some false)]⟩),
 (220,⟨.slice 297,1,24,some (.slice none 0 0),[]⟩),
 (221,⟨.slice 301,1,24,some (.slice none 0 0),[]⟩),
 (223,⟨.struct,7,112,some (.agg #[.string ByteArray.empty,.int .i64 0,.slice none 0 0,.slice none 0 0,.slice none 0 0,.int .i64 0,.int .i64 0]),[(0,1,some false),(1,1,some false),(2,1,some false),(3,1,some false),(4,1,some false),(5,1,some false),(6,1,some false)]⟩),
 (225,⟨.struct,3,48,some (.agg #[.string ByteArray.empty,.int .i64 0,.slice none 0 0]),[(0,1,some false),(1,1,some false),(2,1,some false)]⟩),
 (228,⟨.struct,3,32,some (.agg #[.string ByteArray.empty,.int .i64 0,.int .i64 0]),[(0,1,some false),(1,1,some false),(2,1,some false)]⟩),
 (239,⟨.slice 242,1,24,some (.slice none 0 0),[]⟩),
 (242,⟨.struct,4,32,some (.agg #[.int .i64 0,.int .i64 0,.int .i64 0,.bool false]),[(0,1,some false),(1,1,some false),(2,1,some false),(3,1,some false)]⟩),
 (245,⟨.struct,3,32,some (.agg #[.string ByteArray.empty,.int .i64 0,.int .i64 0]),[(0,1,some false),(1,1,some false),(2,1,some false)]⟩),
 (252,⟨.struct,4,32,some (.agg #[.int .i64 0,.int .i64 0,.int .i64 0,.bool false]),[(0,1,some false),(1,1,some false),(2,1,some false),(3,1,some false)]⟩),
 (260,⟨.slice 264,1,24,some (.slice none 0 0),[]⟩),
 (264,⟨.struct,2,16,some (.agg #[.int .i64 0,.int .i64 0]),[(0,1,some false),(1,1,some false)]⟩),
 (278,⟨.ptr,1,8,some (.pointer none),[]⟩),
 (292,⟨.slice 5,1,24,some (.slice none 0 0),[]⟩),
 (294,⟨.struct,4,40,some (.agg #[.string ByteArray.empty,.int .i64 0,.int .i64 0,.bool false]),[(0,1,some false),(1,1,some false),(2,1,some false),(3,1,some false)]⟩),
 (297,⟨.struct,4,40,some (.agg #[.string ByteArray.empty,.int .i64 0,.int .i64 0,.bool false]),[(0,1,some false),(1,1,some false),(2,1,some false),(3,1,some false)]⟩),
 (299,⟨.slice 338,1,24,some (.slice none 0 0),[]⟩),
 (301,⟨.struct,6,80,some (.agg #[.int .i64 0,.int .i64 0,.int .i64 0,.int .i64 0,.slice none 0 0,.slice none 0 0]),[(0,1,some false),(1,1,some false),(2,1,some false),(3,1,some false),(4,1,some false),(5,1,some false)]⟩),
 (313,⟨.slice 3,1,24,some (.slice none 0 0),[]⟩),
 (321,⟨.int .u64,1,8,some (.int .u64 0),[]⟩),
 (331,⟨.slice 333,1,24,some (.slice none 0 0),[]⟩),
 (333,⟨.arr 2 2,2,16,some (.agg #[.int .i64 0,.int .i64 0]),[]⟩),
 (338,⟨.struct,3,72,some (.agg #[.slice none 0 0,.slice none 0 0,.slice none 0 0]),[(0,1,some false),(1,1,some false),(2,1,some false)]⟩)]
theorem qa:TabOk Tryz.prog tab:=TabOk.mk (by kernel_rfl)
theorem rp {n:Nat} {Q:Exit→Act→World→Prop} {k:List It} {e:Env} {w:World} {all:Array Oper} {l:List Oper} {op:Op} {d t:Nat} {ps:String} {af:Array Edge} {v:Value}
  (h:pev tab e op=some v) (hn:Nat.blt d n=true) (hk:Run Tryz.prog n Q (.ops all l::k) ((d,v)::e) w):Run Tryz.prog n Q (.ops all (⟨some d,op,t,ps,af,none⟩::l)::k) e w:=r_p qa h hn hk
theorem dp {n:Nat} {Q:Exit→Act→World→Prop} {k:List It} {e:Env} {w:World} {all:Array Oper} {l:List Oper} {op:Op} {d t:Nat} {ps:String} {af:Array Edge} {v:Value}
  (h:pev tab e op=some v) (hn:Nat.blt d n=true) (hk:RunD Tryz.prog n Q k all w l ((d,v)::e)):RunD Tryz.prog n Q k all w (⟨some d,op,t,ps,af,none⟩::l) e:=d_p qa h hn hk
section
variable {P:Program} {n:Nat} {Q:Exit→Act→World→Prop} {k:List It} {e:Env} {w:World}
theorem zSR {i4:Nat} {o5:List Oper} {x3:Code} (h:Run P n Q (.ops o5.toArray o5::.code x3::k) e w):Run P n Q (.code (.seq (.region i4 o5.toArray false) x3)::k) e w:=qcP <| qme h
theorem zKSR {i5:Nat} {o6:List Oper} {x4:Code} (h:Run P n Q (.ops o6.toArray o6::.code x4::k) e w):Run P n Q (.code .skip::.code (.seq (.region i5 o6.toArray false) x4)::k) e w:=qih <| qcP <| qme h
theorem zNSR {a1:Array Oper} {i5:Nat} {o6:List Oper} {x4:Code} (h:Run P n Q (.ops o6.toArray o6::.code x4::k) e w):Run P n Q (.ops a1 []::.code (.seq (.region i5 o6.toArray false) x4)::k) e w:=qcH <| qcP <| qme h
theorem zKS {x3:Code} {x4:Code} (h:Run P n Q (.code x3::.code x4::k) e w):Run P n Q (.code .skip::.code (.seq x3 x4)::k) e w:=qih <| qcP h
theorem zNS {a1:Array Oper} {x3:Code} {x4:Code} (h:Run P n Q (.code x3::.code x4::k) e w):Run P n Q (.ops a1 []::.code (.seq x3 x4)::k) e w:=qcH <| qcP h
theorem zNSS {a1:Array Oper} {x5:Code} {x6:Code} {x4:Code} (h:Run P n Q (.code x5::.code x6::.code x4::k) e w):Run P n Q (.ops a1 []::.code (.seq (.seq x5 x6) x4)::k) e w:=qcH <| qcP <| qcP h
theorem zKSB {i5:Nat} {x6:Code} {x4:Code} (h:Run P n Q (.code x6::.blk i5::.code x4::k) e w):Run P n Q (.code .skip::.code (.seq (.block i5 x6) x4)::k) e w:=qih <| qcP <| qm h
theorem zKSBSR {i5:Nat} {i9:Nat} {o10:List Oper} {x8:Code} {x4:Code} (h:Run P n Q (.ops o10.toArray o10::.code x8::.blk i5::.code x4::k) e w):Run P n Q (.code .skip::.code (.seq (.block i5 (.seq (.region i9 o10.toArray false) x8)) x4)::k) e w:=qih <| qcP <| qm <| qcP <| qme h
theorem zSS {x4:Code} {x5:Code} {x3:Code} (h:Run P n Q (.code x4::.code x5::.code x3::k) e w):Run P n Q (.code (.seq (.seq x4 x5) x3)::k) e w:=qcP <| qcP h
theorem zKSS {x5:Code} {x6:Code} {x4:Code} (h:Run P n Q (.code x5::.code x6::.code x4::k) e w):Run P n Q (.code .skip::.code (.seq (.seq x5 x6) x4)::k) e w:=qih <| qcP <| qcP h
end
section
variable {w0 w:World} {L:List Ch} {n:Nat} {Q:Exit→Act→World→Prop} {k k':List It} {e e':Env} {all:Array Oper} {l l':List Oper} {z:List Nat}
theorem X0 (m:Nat) (hh:xs tab n m [] k e [] []=some (k',e',z,z)) (hk:Run Tryz.prog n Q k' e' w):Run Tryz.prog n Q k e w:=((qtZ (P:=Tryz.prog) (Q:=Q) (w:=w) qa m _ _ _ _ _ _ _ _ _ (fun _ h=>by cases h) rfl hh).2 rfl).2 hk
theorem Y0 (m:Nat) (hh:xd tab n all m [] l e [] []=some (l',e',z,z)) (hk:RunD Tryz.prog n Q k all w l' e'):RunD Tryz.prog n Q k all w l e:=((qzi (P:=Tryz.prog) (Q:=Q) (k:=k) (w:=w) (all:=all) qa m _ _ _ _ _ _ _ _ _ (fun _ h=>by cases h) rfl hh).2 rfl).2 hk
theorem X1 (m:Nat) (i0:Nat) {b0 t0:Nat} {cs0:List Value} (h:SH w0 w L) (hh:(L[i0]?,xs tab n m [(b0,cs0)] k e [] [])=(some (Ch.box b0 cs0 t0),some (k',e',z,z))) (hk:Run Tryz.prog n Q k' e' w):Run Tryz.prog n Q k e w:=by
 simp only [Prod.mk.injEq] at hh
 exact ((qtZ (P:=Tryz.prog) (Q:=Q) (w:=w) qa m _ _ _ _ _ _ _ _ _ (fun p hp=>by
  simp only [jU,jO,or_false] at hp
  rcases hp with rfl
  ·exact h.box i0 hh.1) rfl hh.2).2 rfl).2 hk
theorem Y1 (m:Nat) (i0:Nat) {b0 t0:Nat} {cs0:List Value} (h:SH w0 w L) (hh:(L[i0]?,xd tab n all m [(b0,cs0)] l e [] [])=(some (Ch.box b0 cs0 t0),some (l',e',z,z))) (hk:RunD Tryz.prog n Q k all w l' e'):RunD Tryz.prog n Q k all w l e:=by
 simp only [Prod.mk.injEq] at hh
 exact ((qzi (P:=Tryz.prog) (Q:=Q) (k:=k) (w:=w) (all:=all) qa m _ _ _ _ _ _ _ _ _ (fun p hp=>by
  simp only [jU,jO,or_false] at hp
  rcases hp with rfl
  ·exact h.box i0 hh.1) rfl hh.2).2 rfl).2 hk
theorem X2 (m:Nat) (i0 i1:Nat) {b0 t0:Nat} {cs0:List Value} {b1 t1:Nat} {cs1:List Value} (h:SH w0 w L) (hh:(L[i0]?,L[i1]?,xs tab n m [(b0,cs0),(b1,cs1)] k e [] [])=(some (Ch.box b0 cs0 t0),some (Ch.box b1 cs1 t1),some (k',e',z,z))) (hk:Run Tryz.prog n Q k' e' w):Run Tryz.prog n Q k e w:=by
 simp only [Prod.mk.injEq] at hh
 exact ((qtZ (P:=Tryz.prog) (Q:=Q) (w:=w) qa m _ _ _ _ _ _ _ _ _ (fun p hp=>by
  simp only [jU,jO,or_false] at hp
  rcases hp with rfl|rfl
  ·exact h.box i0 hh.1
  ·exact h.box i1 hh.2.1) rfl hh.2.2).2 rfl).2 hk
theorem X3 (m:Nat) (i0 i1 i2:Nat) {b0 t0:Nat} {cs0:List Value} {b1 t1:Nat} {cs1:List Value} {b2 t2:Nat} {cs2:List Value} (h:SH w0 w L) (hh:(L[i0]?,L[i1]?,L[i2]?,xs tab n m [(b0,cs0),(b1,cs1),(b2,cs2)] k e [] [])=(some (Ch.box b0 cs0 t0),some (Ch.box b1 cs1 t1),some (Ch.box b2 cs2 t2),some (k',e',z,z))) (hk:Run Tryz.prog n Q k' e' w):Run Tryz.prog n Q k e w:=by
 simp only [Prod.mk.injEq] at hh
 exact ((qtZ (P:=Tryz.prog) (Q:=Q) (w:=w) qa m _ _ _ _ _ _ _ _ _ (fun p hp=>by
  simp only [jU,jO,or_false] at hp
  rcases hp with rfl|rfl|rfl
  ·exact h.box i0 hh.1
  ·exact h.box i1 hh.2.1
  ·exact h.box i2 hh.2.2.1) rfl hh.2.2.2).2 rfl).2 hk
theorem X4 (m:Nat) (i0 i1 i2 i3:Nat) {b0 t0:Nat} {cs0:List Value} {b1 t1:Nat} {cs1:List Value} {b2 t2:Nat} {cs2:List Value} {b3 t3:Nat} {cs3:List Value} (h:SH w0 w L) (hh:(L[i0]?,L[i1]?,L[i2]?,L[i3]?,xs tab n m [(b0,cs0),(b1,cs1),(b2,cs2),(b3,cs3)] k e [] [])=(some (Ch.box b0 cs0 t0),some (Ch.box b1 cs1 t1),some (Ch.box b2 cs2 t2),some (Ch.box b3 cs3 t3),some (k',e',z,z))) (hk:Run Tryz.prog n Q k' e' w):Run Tryz.prog n Q k e w:=by
 simp only [Prod.mk.injEq] at hh
 exact ((qtZ (P:=Tryz.prog) (Q:=Q) (w:=w) qa m _ _ _ _ _ _ _ _ _ (fun p hp=>by
  simp only [jU,jO,or_false] at hp
  rcases hp with rfl|rfl|rfl|rfl
  ·exact h.box i0 hh.1
  ·exact h.box i1 hh.2.1
  ·exact h.box i2 hh.2.2.1
  ·exact h.box i3 hh.2.2.2.1) rfl hh.2.2.2.2).2 rfl).2 hk
end
section
variable {w0 w:World} {L:List Ch} {n:Nat} {Q:Exit→Act→World→Prop} {k:List It} {e:Env} {all:Array Oper} {l:List Oper}
theorem zp1 {op0:Op} {d0 t0:Nat} {s0:String} {f0:Array Edge} {v0:Value} (h:(pev tab (e) op0,Nat.blt d0 n)=(some v0,true)) (hk:Run Tryz.prog n Q (.ops all l::k) ((d0,v0)::e) w):Run Tryz.prog n Q (.ops all (⟨some d0,op0,t0,s0,f0,none⟩::l)::k) e w:=by
 have H:=h
 simp only [Prod.mk.injEq] at H
 exact rp (H.1) (H.2) (hk)
theorem zd1 {op0:Op} {d0 t0:Nat} {s0:String} {f0:Array Edge} {v0:Value} (h:(pev tab (e) op0,Nat.blt d0 n)=(some v0,true)) (hk:RunD Tryz.prog n Q k all w l ((d0,v0)::e)):RunD Tryz.prog n Q k all w (⟨some d0,op0,t0,s0,f0,none⟩::l) e:=by
 have H:=h
 simp only [Prod.mk.injEq] at H
 exact dp (H.1) (H.2) (hk)
theorem zp2 {op0:Op} {d0 t0:Nat} {s0:String} {f0:Array Edge} {v0:Value} {op1:Op} {d1 t1:Nat} {s1:String} {f1:Array Edge} {v1:Value} (h:(pev tab (e) op0,Nat.blt d0 n,pev tab ((d0,v0)::e) op1,Nat.blt d1 n)=(some v0,true,some v1,true)) (hk:Run Tryz.prog n Q (.ops all l::k) ((d1,v1)::(d0,v0)::e) w):Run Tryz.prog n Q (.ops all (⟨some d0,op0,t0,s0,f0,none⟩::⟨some d1,op1,t1,s1,f1,none⟩::l)::k) e w:=by
 have H:=h
 simp only [Prod.mk.injEq] at H
 exact rp (H.1) (H.2.1) (rp (H.2.2.1) (H.2.2.2) (hk))
theorem zd2 {op0:Op} {d0 t0:Nat} {s0:String} {f0:Array Edge} {v0:Value} {op1:Op} {d1 t1:Nat} {s1:String} {f1:Array Edge} {v1:Value} (h:(pev tab (e) op0,Nat.blt d0 n,pev tab ((d0,v0)::e) op1,Nat.blt d1 n)=(some v0,true,some v1,true)) (hk:RunD Tryz.prog n Q k all w l ((d1,v1)::(d0,v0)::e)):RunD Tryz.prog n Q k all w (⟨some d0,op0,t0,s0,f0,none⟩::⟨some d1,op1,t1,s1,f1,none⟩::l) e:=by
 have H:=h
 simp only [Prod.mk.injEq] at H
 exact dp (H.1) (H.2.1) (dp (H.2.2.1) (H.2.2.2) (hk))
theorem zp3 {op0:Op} {d0 t0:Nat} {s0:String} {f0:Array Edge} {v0:Value} {op1:Op} {d1 t1:Nat} {s1:String} {f1:Array Edge} {v1:Value} {op2:Op} {d2 t2:Nat} {s2:String} {f2:Array Edge} {v2:Value} (h:(pev tab (e) op0,Nat.blt d0 n,pev tab ((d0,v0)::e) op1,Nat.blt d1 n,pev tab ((d1,v1)::(d0,v0)::e) op2,Nat.blt d2 n)=(some v0,true,some v1,true,some v2,true)) (hk:Run Tryz.prog n Q (.ops all l::k) ((d2,v2)::(d1,v1)::(d0,v0)::e) w):Run Tryz.prog n Q (.ops all (⟨some d0,op0,t0,s0,f0,none⟩::⟨some d1,op1,t1,s1,f1,none⟩::⟨some d2,op2,t2,s2,f2,none⟩::l)::k) e w:=by
 have H:=h
 simp only [Prod.mk.injEq] at H
 exact rp (H.1) (H.2.1) (rp (H.2.2.1) (H.2.2.2.1) (rp (H.2.2.2.2.1) (H.2.2.2.2.2) (hk)))
theorem zd3 {op0:Op} {d0 t0:Nat} {s0:String} {f0:Array Edge} {v0:Value} {op1:Op} {d1 t1:Nat} {s1:String} {f1:Array Edge} {v1:Value} {op2:Op} {d2 t2:Nat} {s2:String} {f2:Array Edge} {v2:Value} (h:(pev tab (e) op0,Nat.blt d0 n,pev tab ((d0,v0)::e) op1,Nat.blt d1 n,pev tab ((d1,v1)::(d0,v0)::e) op2,Nat.blt d2 n)=(some v0,true,some v1,true,some v2,true)) (hk:RunD Tryz.prog n Q k all w l ((d2,v2)::(d1,v1)::(d0,v0)::e)):RunD Tryz.prog n Q k all w (⟨some d0,op0,t0,s0,f0,none⟩::⟨some d1,op1,t1,s1,f1,none⟩::⟨some d2,op2,t2,s2,f2,none⟩::l) e:=by
 have H:=h
 simp only [Prod.mk.injEq] at H
 exact dp (H.1) (H.2.1) (dp (H.2.2.1) (H.2.2.2.1) (dp (H.2.2.2.2.1) (H.2.2.2.2.2) (hk)))
theorem zp4 {op0:Op} {d0 t0:Nat} {s0:String} {f0:Array Edge} {v0:Value} {op1:Op} {d1 t1:Nat} {s1:String} {f1:Array Edge} {v1:Value} {op2:Op} {d2 t2:Nat} {s2:String} {f2:Array Edge} {v2:Value} {op3:Op} {d3 t3:Nat} {s3:String} {f3:Array Edge} {v3:Value} (h:(pev tab (e) op0,Nat.blt d0 n,pev tab ((d0,v0)::e) op1,Nat.blt d1 n,pev tab ((d1,v1)::(d0,v0)::e) op2,Nat.blt d2 n,pev tab ((d2,v2)::(d1,v1)::(d0,v0)::e) op3,Nat.blt d3 n)=(some v0,true,some v1,true,some v2,true,some v3,true)) (hk:Run Tryz.prog n Q (.ops all l::k) ((d3,v3)::(d2,v2)::(d1,v1)::(d0,v0)::e) w):Run Tryz.prog n Q (.ops all (⟨some d0,op0,t0,s0,f0,none⟩::⟨some d1,op1,t1,s1,f1,none⟩::⟨some d2,op2,t2,s2,f2,none⟩::⟨some d3,op3,t3,s3,f3,none⟩::l)::k) e w:=by
 have H:=h
 simp only [Prod.mk.injEq] at H
 exact rp (H.1) (H.2.1) (rp (H.2.2.1) (H.2.2.2.1) (rp (H.2.2.2.2.1) (H.2.2.2.2.2.1) (rp (H.2.2.2.2.2.2.1) (H.2.2.2.2.2.2.2) (hk))))
theorem zd4 {op0:Op} {d0 t0:Nat} {s0:String} {f0:Array Edge} {v0:Value} {op1:Op} {d1 t1:Nat} {s1:String} {f1:Array Edge} {v1:Value} {op2:Op} {d2 t2:Nat} {s2:String} {f2:Array Edge} {v2:Value} {op3:Op} {d3 t3:Nat} {s3:String} {f3:Array Edge} {v3:Value} (h:(pev tab (e) op0,Nat.blt d0 n,pev tab ((d0,v0)::e) op1,Nat.blt d1 n,pev tab ((d1,v1)::(d0,v0)::e) op2,Nat.blt d2 n,pev tab ((d2,v2)::(d1,v1)::(d0,v0)::e) op3,Nat.blt d3 n)=(some v0,true,some v1,true,some v2,true,some v3,true)) (hk:RunD Tryz.prog n Q k all w l ((d3,v3)::(d2,v2)::(d1,v1)::(d0,v0)::e)):RunD Tryz.prog n Q k all w (⟨some d0,op0,t0,s0,f0,none⟩::⟨some d1,op1,t1,s1,f1,none⟩::⟨some d2,op2,t2,s2,f2,none⟩::⟨some d3,op3,t3,s3,f3,none⟩::l) e:=by
 have H:=h
 simp only [Prod.mk.injEq] at H
 exact dp (H.1) (H.2.1) (dp (H.2.2.1) (H.2.2.2.1) (dp (H.2.2.2.2.1) (H.2.2.2.2.2.1) (dp (H.2.2.2.2.2.2.1) (H.2.2.2.2.2.2.2) (hk))))
theorem zp5 {op0:Op} {d0 t0:Nat} {s0:String} {f0:Array Edge} {v0:Value} {op1:Op} {d1 t1:Nat} {s1:String} {f1:Array Edge} {v1:Value} {op2:Op} {d2 t2:Nat} {s2:String} {f2:Array Edge} {v2:Value} {op3:Op} {d3 t3:Nat} {s3:String} {f3:Array Edge} {v3:Value} {op4:Op} {d4 t4:Nat} {s4:String} {f4:Array Edge} {v4:Value} (h:(pev tab (e) op0,Nat.blt d0 n,pev tab ((d0,v0)::e) op1,Nat.blt d1 n,pev tab ((d1,v1)::(d0,v0)::e) op2,Nat.blt d2 n,pev tab ((d2,v2)::(d1,v1)::(d0,v0)::e) op3,Nat.blt d3 n,pev tab ((d3,v3)::(d2,v2)::(d1,v1)::(d0,v0)::e) op4,Nat.blt d4 n)=(some v0,true,some v1,true,some v2,true,some v3,true,some v4,true)) (hk:Run Tryz.prog n Q (.ops all l::k) ((d4,v4)::(d3,v3)::(d2,v2)::(d1,v1)::(d0,v0)::e) w):Run Tryz.prog n Q (.ops all (⟨some d0,op0,t0,s0,f0,none⟩::⟨some d1,op1,t1,s1,f1,none⟩::⟨some d2,op2,t2,s2,f2,none⟩::⟨some d3,op3,t3,s3,f3,none⟩::⟨some d4,op4,t4,s4,f4,none⟩::l)::k) e w:=by
 have H:=h
 simp only [Prod.mk.injEq] at H
 exact rp (H.1) (H.2.1) (rp (H.2.2.1) (H.2.2.2.1) (rp (H.2.2.2.2.1) (H.2.2.2.2.2.1) (rp (H.2.2.2.2.2.2.1) (H.2.2.2.2.2.2.2.1) (rp (H.2.2.2.2.2.2.2.2.1) (H.2.2.2.2.2.2.2.2.2) (hk)))))
theorem zd5 {op0:Op} {d0 t0:Nat} {s0:String} {f0:Array Edge} {v0:Value} {op1:Op} {d1 t1:Nat} {s1:String} {f1:Array Edge} {v1:Value} {op2:Op} {d2 t2:Nat} {s2:String} {f2:Array Edge} {v2:Value} {op3:Op} {d3 t3:Nat} {s3:String} {f3:Array Edge} {v3:Value} {op4:Op} {d4 t4:Nat} {s4:String} {f4:Array Edge} {v4:Value} (h:(pev tab (e) op0,Nat.blt d0 n,pev tab ((d0,v0)::e) op1,Nat.blt d1 n,pev tab ((d1,v1)::(d0,v0)::e) op2,Nat.blt d2 n,pev tab ((d2,v2)::(d1,v1)::(d0,v0)::e) op3,Nat.blt d3 n,pev tab ((d3,v3)::(d2,v2)::(d1,v1)::(d0,v0)::e) op4,Nat.blt d4 n)=(some v0,true,some v1,true,some v2,true,some v3,true,some v4,true)) (hk:RunD Tryz.prog n Q k all w l ((d4,v4)::(d3,v3)::(d2,v2)::(d1,v1)::(d0,v0)::e)):RunD Tryz.prog n Q k all w (⟨some d0,op0,t0,s0,f0,none⟩::⟨some d1,op1,t1,s1,f1,none⟩::⟨some d2,op2,t2,s2,f2,none⟩::⟨some d3,op3,t3,s3,f3,none⟩::⟨some d4,op4,t4,s4,f4,none⟩::l) e:=by
 have H:=h
 simp only [Prod.mk.injEq] at H
 exact dp (H.1) (H.2.1) (dp (H.2.2.1) (H.2.2.2.1) (dp (H.2.2.2.2.1) (H.2.2.2.2.2.1) (dp (H.2.2.2.2.2.2.1) (H.2.2.2.2.2.2.2.1) (dp (H.2.2.2.2.2.2.2.2.1) (H.2.2.2.2.2.2.2.2.2) (hk)))))
theorem zl (i j:Nat) {d t ty:Nat} {x:Operand} {te:TE} {ps:String} {af:Array Edge} {v:Value} {b:Nat} {cs:List Value} {t':TypeId} (h:SH w0 w L) (hh:(L[i]?,opv e x,tab.get t,ld te cs j,Nat.blt d n)=(some (Ch.box b cs t'),some (.pointer (some ⟨b,0+j,none⟩)),some te,some v,true))
  (hk:Run Tryz.prog n Q (.ops all l::k) ((d,v)::e) w):Run Tryz.prog n Q (.ops all (⟨some d,.load t x,ty,ps,af,none⟩::l)::k) e w:=by
 simp only [Prod.mk.injEq] at hh
 exact r_v (qjN qa (h.box i hh.1) (j:=j) hh.2.1 hh.2.2.1 hh.2.2.2.1) hh.2.2.2.2 hk
theorem zc (j:Nat) {d t ty:Nat} {x:Operand} {te:TE} {ps:String} {af:Array Edge} {v:Value} {b o:Nat} {cs:List Value} (h:CellsAt w b o cs) (hh:(opv e x,tab.get t,ld te cs j,Nat.blt d n)=(some (.pointer (some ⟨b,o+j,none⟩)),some te,some v,true))
  (hk:Run Tryz.prog n Q (.ops all l::k) ((d,v)::e) w):Run Tryz.prog n Q (.ops all (⟨some d,.load t x,ty,ps,af,none⟩::l)::k) e w:=by
 simp only [Prod.mk.injEq] at hh
 exact r_v (qjN qa h (j:=j) hh.1 hh.2.1 hh.2.2.1) hh.2.2.2 hk
theorem zdc (j:Nat) {d t ty:Nat} {x:Operand} {te:TE} {ps:String} {af:Array Edge} {v:Value} {b o:Nat} {cs:List Value} (h:CellsAt w b o cs) (hh:(opv e x,tab.get t,ld te cs j,Nat.blt d n)=(some (.pointer (some ⟨b,o+j,none⟩)),some te,some v,true))
  (hk:RunD Tryz.prog n Q k all w l ((d,v)::e)):RunD Tryz.prog n Q k all w (⟨some d,.load t x,ty,ps,af,none⟩::l) e:=by
 simp only [Prod.mk.injEq] at hh
 exact d_v (fun _ hb=>qjN qa (h.below hb) (j:=j) hh.1 hh.2.1 hh.2.2.1) hh.2.2.2 hk
theorem zx {x i:Operand} {t ty d el m:Nat} {te te1:TE} {ps:String} {af:Array Edge} {p:Option Addr} {ln c:Nat} {kd:IntKind} {iv:Int} {b o q:Nat} (hp:p=some ⟨b,o,none⟩) (hq:q=o+iv.toNat*m) (hlt:0≤iv∧iv<ln) (hh:(opv e x,opv e i,tab.get t,te.kind,tab.get el,te1.size,Nat.blt d n)=(some (.slice p ln c),some (.int kd iv),some te,TK.slice el,some te1,m,true)) (hk:Run Tryz.prog n Q (.ops all l::k) ((d,.pointer (some ⟨b,q,none⟩))::e) w):Run Tryz.prog n Q (.ops all (⟨some d,.indexAddr t x i,ty,ps,af,none⟩::l)::k) e w:=by
 simp only [Prod.mk.injEq] at hh
 exact r_v (qxM qa hp hq hlt hh.1 hh.2.1 hh.2.2.1 hh.2.2.2.1 hh.2.2.2.2.1 hh.2.2.2.2.2.1) hh.2.2.2.2.2.2 hk
theorem zxe {x i:Operand} {t ty d el m:Nat} {te te1:TE} {ps:String} {af:Array Edge} {p:Option Addr} {ln c:Nat} {kd:IntKind} {iv:Int} {b o q:Nat} {α:Prop} (hp:p=some ⟨b,o,none⟩) (hq:q=o+iv.toNat*m) (hlt:0≤iv∧iv<ln∧α) (hh:(opv e x,opv e i,tab.get t,te.kind,tab.get el,te1.size,Nat.blt d n)=(some (.slice p ln c),some (.int kd iv),some te,TK.slice el,some te1,m,true)) (hk:Run Tryz.prog n Q (.ops all l::k) ((d,.pointer (some ⟨b,q,none⟩))::e) w):Run Tryz.prog n Q (.ops all (⟨some d,.indexAddr t x i,ty,ps,af,none⟩::l)::k) e w:=zx hp hq ⟨hlt.1,hlt.2.1⟩ hh hk
theorem zdx {x i:Operand} {t ty d el m:Nat} {te te1:TE} {ps:String} {af:Array Edge} {p:Option Addr} {ln c:Nat} {kd:IntKind} {iv:Int} {b o q:Nat} (hp:p=some ⟨b,o,none⟩) (hq:q=o+iv.toNat*m) (hlt:0≤iv∧iv<ln) (hh:(opv e x,opv e i,tab.get t,te.kind,tab.get el,te1.size,Nat.blt d n)=(some (.slice p ln c),some (.int kd iv),some te,TK.slice el,some te1,m,true)) (hk:RunD Tryz.prog n Q k all w l ((d,.pointer (some ⟨b,q,none⟩))::e)):RunD Tryz.prog n Q k all w (⟨some d,.indexAddr t x i,ty,ps,af,none⟩::l) e:=by
 simp only [Prod.mk.injEq] at hh
 exact d_v (fun _ _=>qxM qa hp hq hlt hh.1 hh.2.1 hh.2.2.1 hh.2.2.2.1 hh.2.2.2.2.1 hh.2.2.2.2.2.1) hh.2.2.2.2.2.2 hk
theorem zdxe {x i:Operand} {t ty d el m:Nat} {te te1:TE} {ps:String} {af:Array Edge} {p:Option Addr} {ln c:Nat} {kd:IntKind} {iv:Int} {b o q:Nat} {α:Prop} (hp:p=some ⟨b,o,none⟩) (hq:q=o+iv.toNat*m) (hlt:0≤iv∧iv<ln∧α) (hh:(opv e x,opv e i,tab.get t,te.kind,tab.get el,te1.size,Nat.blt d n)=(some (.slice p ln c),some (.int kd iv),some te,TK.slice el,some te1,m,true)) (hk:RunD Tryz.prog n Q k all w l ((d,.pointer (some ⟨b,q,none⟩))::e)):RunD Tryz.prog n Q k all w (⟨some d,.indexAddr t x i,ty,ps,af,none⟩::l) e:=zdx hp hq ⟨hlt.1,hlt.2.1⟩ hh hk
theorem zs (i:Nat) {t ty:Nat} {ps:String} {af:Array Edge} {x v:Operand} {te:TE} {b j:Nat} {cs us cs':List Value} {t':TypeId} {u:Value} {L':List Ch} (h:SH w0 w L)
  (hh:(L[i]?,opv e x,opv e v,cellsL u,tab.get t,Nat.beq us.length te.size,Nat.ble (j+us.length) cs.length,ones us,splN cs j us,setN L i (Ch.box b cs' t'))=(some (Ch.box b cs t'),some (.pointer (some ⟨b,j,none⟩)),some u,us,some te,true,true,true,some cs',some L'))
  (hk:∀ w',SH w0 w' L'→Run Tryz.prog n Q (.ops all l::k) e w'):Run Tryz.prog n Q (.ops all (⟨none,.store t x v,ty,ps,af,none⟩::l)::k) e w:=by
 simp only [Prod.mk.injEq] at hh
 obtain ⟨h1,h2,h3,h4,h5,h6,h7,h8,h9,h10⟩:=hh
 subst h4
 have e1:=qs1 h9
 have e2:=qvR h10
 subst e1 e2
 exact qy7 qa i h h1 h2 h3 h5 h6 h7 h8 hk
end
section
variable {P:Program} {fnc:Func} {R:Ending→World→Prop} {n:Nat} {k:List It} {e:Env} {w0 w:World} {ops:Array Oper} {st:List Nat} {fuel:Nat}
theorem M0 (K:Nat) (is:List Nat) {C:World→Prop} {m K0 f f':Nat} {e':Env} {z:List Nat} (hC:C w) (hh:xa tab n ops is [] f e [] []=some (f',e',z,z))
  (hk:RunA Tryz.prog n (bodyPost Tryz.prog fnc R) k ops st C f' (bits m K) e' w) (ho:oka ops st is (bits m K0) (bits m K)=true:=by kernel_rfl):RunA Tryz.prog n (bodyPost Tryz.prog fnc R) k ops st C f (bits m K0) e w:=by
 exact ((qt2 (C:=C) (w:=w) (P:=Tryz.prog) qa hC is _ _ _ _ _ _ _ _ _ _ _ (fun _ h=>by cases h) rfl hh ho).2 rfl).2 hk
theorem G0 (K:Nat) (is:List Nat) {C:World→Prop} {m K0 f f':Nat} {e':Env} {z:List Nat} {all:Array Oper} (hC:C w) (hh:xa tab n ops is [] f e [] []=some (f',e',z,z))
  (hk:RunA Tryz.prog n (bodyPost Tryz.prog fnc R) k ops st C f' (bits m K) e' w) (ho:oka ops st is (bits m K0) (bits m K)=true:=by kernel_rfl):Run Tryz.prog n (bodyPost Tryz.prog fnc R) (.ops all []::.goal (NextA Tryz.prog n (bodyPost Tryz.prog fnc R) k ops st C f (bits m K0))::k) e w :=
 Ag hC (M0 K is (C:=C) hC hh hk ho)
theorem M1 (K:Nat) (is:List Nat) (i0:Nat) {b0 t0:Nat} {cs0:List Value} {LA:List Ch} {m K0 f f':Nat} {e':Env} {z:List Nat} (hC:SH w0 w LA) (hh:(LA[i0]?,xa tab n ops is [(b0,cs0)] f e [] [])=(some (Ch.box b0 cs0 t0),some (f',e',z,z)))
  (hk:RunA Tryz.prog n (bodyPost Tryz.prog fnc R) k ops st (fun w'=>SH w0 w' LA) f' (bits m K) e' w) (ho:oka ops st is (bits m K0) (bits m K)=true:=by kernel_rfl):RunA Tryz.prog n (bodyPost Tryz.prog fnc R) k ops st (fun w'=>SH w0 w' LA) f (bits m K0) e w:=by
 simp only [Prod.mk.injEq] at hh
 exact ((qt2 (C:=(fun w'=>SH w0 w' LA)) (w:=w) (P:=Tryz.prog) qa hC is _ _ _ _ _ _ _ _ _ _ _ (fun p hp w1 hw=>by
  simp only [jU,jO,or_false] at hp
  rcases hp with rfl
  ·exact SH.box hw i0 hh.1) rfl hh.2 ho).2 rfl).2 hk
theorem M2 (K:Nat) (is:List Nat) (i0 i1:Nat) {b0 t0:Nat} {cs0:List Value} {b1 t1:Nat} {cs1:List Value} {LA:List Ch} {m K0 f f':Nat} {e':Env} {z:List Nat} (hC:SH w0 w LA) (hh:(LA[i0]?,LA[i1]?,xa tab n ops is [(b0,cs0),(b1,cs1)] f e [] [])=(some (Ch.box b0 cs0 t0),some (Ch.box b1 cs1 t1),some (f',e',z,z)))
  (hk:RunA Tryz.prog n (bodyPost Tryz.prog fnc R) k ops st (fun w'=>SH w0 w' LA) f' (bits m K) e' w) (ho:oka ops st is (bits m K0) (bits m K)=true:=by kernel_rfl):RunA Tryz.prog n (bodyPost Tryz.prog fnc R) k ops st (fun w'=>SH w0 w' LA) f (bits m K0) e w:=by
 simp only [Prod.mk.injEq] at hh
 exact ((qt2 (C:=(fun w'=>SH w0 w' LA)) (w:=w) (P:=Tryz.prog) qa hC is _ _ _ _ _ _ _ _ _ _ _ (fun p hp w1 hw=>by
  simp only [jU,jO,or_false] at hp
  rcases hp with rfl|rfl
  ·exact SH.box hw i0 hh.1
  ·exact SH.box hw i1 hh.2.1) rfl hh.2.2 ho).2 rfl).2 hk
theorem M3 (K:Nat) (is:List Nat) (i0 i1 i2:Nat) {b0 t0:Nat} {cs0:List Value} {b1 t1:Nat} {cs1:List Value} {b2 t2:Nat} {cs2:List Value} {LA:List Ch} {m K0 f f':Nat} {e':Env} {z:List Nat} (hC:SH w0 w LA) (hh:(LA[i0]?,LA[i1]?,LA[i2]?,xa tab n ops is [(b0,cs0),(b1,cs1),(b2,cs2)] f e [] [])=(some (Ch.box b0 cs0 t0),some (Ch.box b1 cs1 t1),some (Ch.box b2 cs2 t2),some (f',e',z,z)))
  (hk:RunA Tryz.prog n (bodyPost Tryz.prog fnc R) k ops st (fun w'=>SH w0 w' LA) f' (bits m K) e' w) (ho:oka ops st is (bits m K0) (bits m K)=true:=by kernel_rfl):RunA Tryz.prog n (bodyPost Tryz.prog fnc R) k ops st (fun w'=>SH w0 w' LA) f (bits m K0) e w:=by
 simp only [Prod.mk.injEq] at hh
 exact ((qt2 (C:=(fun w'=>SH w0 w' LA)) (w:=w) (P:=Tryz.prog) qa hC is _ _ _ _ _ _ _ _ _ _ _ (fun p hp w1 hw=>by
  simp only [jU,jO,or_false] at hp
  rcases hp with rfl|rfl|rfl
  ·exact SH.box hw i0 hh.1
  ·exact SH.box hw i1 hh.2.1
  ·exact SH.box hw i2 hh.2.2.1) rfl hh.2.2.2 ho).2 rfl).2 hk
theorem M4 (K:Nat) (is:List Nat) (i0 i1 i2 i3:Nat) {b0 t0:Nat} {cs0:List Value} {b1 t1:Nat} {cs1:List Value} {b2 t2:Nat} {cs2:List Value} {b3 t3:Nat} {cs3:List Value} {LA:List Ch} {m K0 f f':Nat} {e':Env} {z:List Nat} (hC:SH w0 w LA) (hh:(LA[i0]?,LA[i1]?,LA[i2]?,LA[i3]?,xa tab n ops is [(b0,cs0),(b1,cs1),(b2,cs2),(b3,cs3)] f e [] [])=(some (Ch.box b0 cs0 t0),some (Ch.box b1 cs1 t1),some (Ch.box b2 cs2 t2),some (Ch.box b3 cs3 t3),some (f',e',z,z)))
  (hk:RunA Tryz.prog n (bodyPost Tryz.prog fnc R) k ops st (fun w'=>SH w0 w' LA) f' (bits m K) e' w) (ho:oka ops st is (bits m K0) (bits m K)=true:=by kernel_rfl):RunA Tryz.prog n (bodyPost Tryz.prog fnc R) k ops st (fun w'=>SH w0 w' LA) f (bits m K0) e w:=by
 simp only [Prod.mk.injEq] at hh
 exact ((qt2 (C:=(fun w'=>SH w0 w' LA)) (w:=w) (P:=Tryz.prog) qa hC is _ _ _ _ _ _ _ _ _ _ _ (fun p hp w1 hw=>by
  simp only [jU,jO,or_false] at hp
  rcases hp with rfl|rfl|rfl|rfl
  ·exact SH.box hw i0 hh.1
  ·exact SH.box hw i1 hh.2.1
  ·exact SH.box hw i2 hh.2.2.1
  ·exact SH.box hw i3 hh.2.2.2.1) rfl hh.2.2.2.2 ho).2 rfl).2 hk
theorem Aw (i K:Nat) {C:World→Prop} {m K0 d:Nat} {op:Op} {t:Nat} {ps:String} {af:Array Edge} {v:Value} (hv:∀ w',C w'→Val Tryz.prog n e ⟨some d,op,t,ps,af,none⟩ w' v) (hC:C w) (hh:(ops[i]?,Nat.blt d n)=(some (⟨some d,op,t,ps,af,none⟩:Oper),true))
  (hk:RunA Tryz.prog n (bodyPost Tryz.prog fnc R) k ops st C fuel (bits m K) ((d,v)::e) w) (hl:(bits m K0).setIfInBounds i true=bits m K:=by kernel_rfl)
  (hb:(Region.noSelect ops&&Region.free .any ops (bits m K0) i&&(Region.ready .any ops (bits m K0)).contains i&&st.all (fun s=>!(Nat.beq s i)&&waitsB ops i s&&!((bits m K0).getD s true)))=true:=by kernel_rfl) :
  RunA Tryz.prog n (bodyPost Tryz.prog fnc R) k ops st C (fuel+1) (bits m K0) e w:=by
 simp only [Prod.mk.injEq] at hh
 exact qj5 i hh.1 _ hl hb hv hC hh.2 hk
theorem Al (i K j:Nat) {LA:List Ch} {m K0 d t ty b o:Nat} {x:Operand} {te:TE} {ps:String} {af:Array Edge} {v:Value} {cs:List Value} (hc:CellsAt w0 b o cs) (hC:SH w0 w LA)
  (hh:(ops[i]?,opv e x,tab.get t,ld te cs j,Nat.blt d n)=(some (⟨some d,.load t x,ty,ps,af,none⟩:Oper),some (.pointer (some ⟨b,o+j,none⟩)),some te,some v,true))
  (hk:RunA Tryz.prog n (bodyPost Tryz.prog fnc R) k ops st (fun w'=>SH w0 w' LA) fuel (bits m K) ((d,v)::e) w) (hl:(bits m K0).setIfInBounds i true=bits m K:=by kernel_rfl)
  (hb:(Region.noSelect ops&&Region.free .any ops (bits m K0) i&&(Region.ready .any ops (bits m K0)).contains i&&st.all (fun s=>!(Nat.beq s i)&&waitsB ops i s&&!((bits m K0).getD s true)))=true:=by kernel_rfl) :
  RunA Tryz.prog n (bodyPost Tryz.prog fnc R) k ops st (fun w'=>SH w0 w' LA) (fuel+1) (bits m K0) e w:=by
 simp only [Prod.mk.injEq] at hh
 exact qj5 i hh.1 _ hl hb (fun w' hw=>qjN qa (hc.below hw.below) (j:=j) hh.2.1 hh.2.2.1 hh.2.2.2.1) hC hh.2.2.2.2 hk
theorem Ax (i K:Nat) {C:World→Prop} {m K0 d t ty el q:Nat} {x ix:Operand} {te te1:TE} {ps:String} {af:Array Edge} {p:Option Addr} {ln c sz:Nat} {kd:IntKind} {iv:Int} {b o:Nat} (hp:p=some ⟨b,o,none⟩) (hq:q=o+iv.toNat*sz) (hlt:0≤iv∧iv<ln) (hC:C w)
  (hh:(ops[i]?,opv e x,opv e ix,tab.get t,te.kind,tab.get el,te1.size,Nat.blt d n)=(some (⟨some d,.indexAddr t x ix,ty,ps,af,none⟩:Oper),some (.slice p ln c),some (.int kd iv),some te,TK.slice el,some te1,sz,true))
  (hk:RunA Tryz.prog n (bodyPost Tryz.prog fnc R) k ops st C fuel (bits m K) ((d,.pointer (some ⟨b,q,none⟩))::e) w) (hl:(bits m K0).setIfInBounds i true=bits m K:=by kernel_rfl)
  (hb:(Region.noSelect ops&&Region.free .any ops (bits m K0) i&&(Region.ready .any ops (bits m K0)).contains i&&st.all (fun s=>!(Nat.beq s i)&&waitsB ops i s&&!((bits m K0).getD s true)))=true:=by kernel_rfl) :
  RunA Tryz.prog n (bodyPost Tryz.prog fnc R) k ops st C (fuel+1) (bits m K0) e w:=by
 simp only [Prod.mk.injEq] at hh
 exact qj5 i hh.1 _ hl hb (fun w' _=>qxM qa hp hq hlt hh.2.1 hh.2.2.1 hh.2.2.2.1 hh.2.2.2.2.1 hh.2.2.2.2.2.1 hh.2.2.2.2.2.2.1) hC hh.2.2.2.2.2.2.2 hk
theorem Ae (i K:Nat) {C:World→Prop} {m K0 d t ty el q:Nat} {x ix:Operand} {te te1:TE} {ps:String} {af:Array Edge} {p:Option Addr} {ln c sz:Nat} {kd:IntKind} {iv:Int} {b o:Nat} {α:Prop} (hp:p=some ⟨b,o,none⟩) (hq:q=o+iv.toNat*sz) (hlt:0≤iv∧iv<ln∧α) (hC:C w)
  (hh:(ops[i]?,opv e x,opv e ix,tab.get t,te.kind,tab.get el,te1.size,Nat.blt d n)=(some (⟨some d,.indexAddr t x ix,ty,ps,af,none⟩:Oper),some (.slice p ln c),some (.int kd iv),some te,TK.slice el,some te1,sz,true))
  (hk:RunA Tryz.prog n (bodyPost Tryz.prog fnc R) k ops st C fuel (bits m K) ((d,.pointer (some ⟨b,q,none⟩))::e) w) (hl:(bits m K0).setIfInBounds i true=bits m K:=by kernel_rfl)
  (hb:(Region.noSelect ops&&Region.free .any ops (bits m K0) i&&(Region.ready .any ops (bits m K0)).contains i&&st.all (fun s=>!(Nat.beq s i)&&waitsB ops i s&&!((bits m K0).getD s true)))=true:=by kernel_rfl) :
  RunA Tryz.prog n (bodyPost Tryz.prog fnc R) k ops st C (fuel+1) (bits m K0) e w:=Ax i K hp hq ⟨hlt.1,hlt.2.1⟩ hC hh hk hl hb
theorem rb {fn:Func} {L:List Ch} {x r:Bool} (h:SH w0 w L) (hF:some x=some r) (hr:res1 e fn.results.toList=some (.bool x)) :
  Run Tryz.prog n (bodyPost Tryz.prog fn fun e w'=>∃ v,e=.returned v∧Below w0.heap.size w0 w'∧∃ us,v=tup us∧GoVs.Vs w' (fresh w0 w') r us) (.code .ret::k) e w:=qAe qa h hF (qv2 hr)
theorem ri {fn:Func} {L:List Ch} {x r:Int} (h:SH w0 w L) (hF:some x=some r) (hr:res1 e fn.results.toList=some (.int .i64 x)) :
  Run Tryz.prog n (bodyPost Tryz.prog fn fun e w'=>∃ v,e=.returned v∧Below w0.heap.size w0 w'∧∃ us,v=tup us∧GoVs.Vs w' (fresh w0 w') r us) (.code .ret::k) e w:=qAd qa h hF (qv2 hr)
theorem rO {fn:Func} {L:List Ch} {α:Type} [GoT α] {r:α} {S:Nat→Prop} {cs:List Value} (i:Nat) (h:SH w0 w L) (hi:L[i]?=some (Ch.own S r cs)) (hr:ResOk tab e w fn.results.toList [GoT.v α cs]) :
  Run Tryz.prog n (bodyPost Tryz.prog fn fun e w'=>∃ v,e=.returned v∧Below w0.heap.size w0 w'∧∃ us,v=tup us∧GoVs.Vs w' (fresh w0 w') r us) (.code .ret::k) e w:=qT qa _ h hr (PV.done h (qZ (qag i h hi)))
theorem zV {ρ:Type} [GoVs ρ] {f:FuncId} {fn:Func} {c:Code} {vs:List Value} {r:ρ} (m:Nat) (hf:Tryz.prog.funcs[f]?=some fn) (hh:(fn.body,fn.ntmps,Nat.ble vs.length m)=(some c,m,true))
  (h:SH w w []→Run Tryz.prog m (bodyPost Tryz.prog fn fun e w'=>∃ v,e=.returned v∧Below w.heap.size w w'∧∃ us,v=tup us∧GoVs.Vs w' (fresh w w') r us) [.code c] (argEnv 0 vs) w):RetV Tryz.prog f vs w r:=by
 simp only [Prod.mk.injEq] at hh
 exact quz hf hh.1 hh.2.1 hh.2.2 h
end
section
variable {w0 w:World} {L:List Ch} {n:Nat} {Q:Exit→Act→World→Prop} {k:List It} {e:Env} {all:Array Oper} {l:List Oper} {d ty:Nat} {ps:String} {af:Array Edge} {x:Operand} {args:Array Operand} {ats:Array TypeId} {f:FuncId} {fi ca:Array Value} {av vs:List Value} {β:Type} {rr:β}
theorem zcI {F:Option Int} {g:Int→Option β} (h:SH w0 w L) (hF:F.bind g=some rr) (hc:∀ {r},F=some r→RetV Tryz.prog f vs w r)
  (hh:(opv e x,opvs e args.toList,fi.toList++av++ca.toList,Nat.blt d n)=(some (.func (.func f) fi ca),some av,vs,true))
  (hk:∀ r w' ,SH w0 w' (L)→g r=some rr→Run Tryz.prog n Q (.ops all l::k) ((d,.int .i64 r)::e) w') (hcall:qf2 Tryz.prog f:=by exact cA rfl):Run Tryz.prog n Q (.ops all (⟨some d,.call ⟨.value x,args,ats⟩,ty,ps,af,none⟩::l)::k) e w:=by
 obtain ⟨r,hr,hF⟩:=qc hF
 simp only [Prod.mk.injEq] at hh
 exact qcl r h hcall (hc hr) hh.1 hh.2.1 hh.2.2.1 hh.2.2.2 (fun w'  h'=>hk r w'  h' hF)
theorem zcB {F:Option Bool} {g:Bool→Option β} (h:SH w0 w L) (hF:F.bind g=some rr) (hc:∀ {r},F=some r→RetV Tryz.prog f vs w r)
  (hh:(opv e x,opvs e args.toList,fi.toList++av++ca.toList,Nat.blt d n)=(some (.func (.func f) fi ca),some av,vs,true))
  (hk:∀ r w' ,SH w0 w' (L)→g r=some rr→Run Tryz.prog n Q (.ops all l::k) ((d,.bool r)::e) w') (hcall:qf2 Tryz.prog f:=by exact cA rfl):Run Tryz.prog n Q (.ops all (⟨some d,.call ⟨.value x,args,ats⟩,ty,ps,af,none⟩::l)::k) e w:=by
 obtain ⟨r,hr,hF⟩:=qc hF
 simp only [Prod.mk.injEq] at hh
 exact qyv r h hcall (hc hr) hh.1 hh.2.1 hh.2.2.1 hh.2.2.2 (fun w'  h'=>hk r w'  h' hF)
theorem zcS {F:Option ByteArray} {g:ByteArray→Option β} (h:SH w0 w L) (hF:F.bind g=some rr) (hc:∀ {r},F=some r→RetV Tryz.prog f vs w r)
  (hh:(opv e x,opvs e args.toList,fi.toList++av++ca.toList,Nat.blt d n)=(some (.func (.func f) fi ca),some av,vs,true))
  (hk:∀ r w' ,SH w0 w' (L)→g r=some rr→Run Tryz.prog n Q (.ops all l::k) ((d,.string r)::e) w') (hcall:qf2 Tryz.prog f:=by exact cA rfl):Run Tryz.prog n Q (.ops all (⟨some d,.call ⟨.value x,args,ats⟩,ty,ps,af,none⟩::l)::k) e w:=by
 obtain ⟨r,hr,hF⟩:=qc hF
 simp only [Prod.mk.injEq] at hh
 exact qyV r h hcall (hc hr) hh.1 hh.2.1 hh.2.2.1 hh.2.2.2 (fun w'  h'=>hk r w'  h' hF)
theorem zcL {α:Type} [GoT α] {F:Option (List α)} {g:(List α)→Option β} (h:SH w0 w L) (hF:F.bind g=some rr) (hc:∀ {r},F=some r→RetV Tryz.prog f vs w r)
  (hh:(opv e x,opvs e args.toList,fi.toList++av++ca.toList,Nat.blt d n)=(some (.func (.func f) fi ca),some av,vs,true))
  (hk:∀ r w' S p c,SH w0 w' (Ch.own S r [.slice p r.length c]::L)→g r=some rr→Run Tryz.prog n Q (.ops all l::k) ((d,.slice p r.length c)::e) w') (hcall:qf2 Tryz.prog f:=by exact cA rfl):Run Tryz.prog n Q (.ops all (⟨some d,.call ⟨.value x,args,ats⟩,ty,ps,af,none⟩::l)::k) e w:=by
 obtain ⟨r,hr,hF⟩:=qc hF
 simp only [Prod.mk.injEq] at hh
 exact qmJ r h hcall (hc hr) hh.1 hh.2.1 hh.2.2.1 hh.2.2.2 (fun w' S p c h'=>hk r w' S p c h' hF)
theorem zcO {α:Type} [GoT α] {F:Option α} {g:α→Option β} (h:SH w0 w L) (hF:F.bind g=some rr) (hc:∀ {r},F=some r→RetV Tryz.prog f vs w r)
  (hh:(opv e x,opvs e args.toList,fi.toList++av++ca.toList,Nat.blt d n)=(some (.func (.func f) fi ca),some av,vs,true))
  (hk:∀ r w' S cs,SH w0 w' (Ch.own S r cs::L)→g r=some rr→Run Tryz.prog n Q (.ops all l::k) ((d,GoT.v α cs)::e) w') (hcall:qf2 Tryz.prog f:=by exact cA rfl):Run Tryz.prog n Q (.ops all (⟨some d,.call ⟨.value x,args,ats⟩,ty,ps,af,none⟩::l)::k) e w:=by
 obtain ⟨r,hr,hF⟩:=qc hF
 simp only [Prod.mk.injEq] at hh
 exact qmn r h hcall (hc hr) hh.1 hh.2.1 hh.2.2.1 hh.2.2.2 (fun w' S cs h'=>hk r w' S cs h' hF)
end
def noC:List Nat:=[0,1,288,309]
theorem allC:((List.range 319).all fun f=>noC.contains f || callB Tryz.prog f)=true:=by kernel_rfl
theorem cA {f:Nat} (h:(Nat.blt f 319&&!noC.contains f)=true):qf2 Tryz.prog f:=by
 rw [jf,Nat.blt_eq,jJ] at h
 have:=List.all_eq_true.1 allC f (List.mem_range.2 h.1)
 rw [h.2] at this
 exact qyl this
theorem cB (f:Nat) (h:(Nat.blt f 319&&!noC.contains f)=true):qf2 Tryz.prog f:=cA h
def qbS (_:Nat) (a:(List Int)) (left:Int):Option Int :=
 bif decide ((W64 (left-(a.length:Int)))<0) then some (-1) else
 some (W64 (left-(a.length:Int)))
theorem qbB {a:(List Int)} {left:Int} (ha1:Ro w a cs1) {r:Int} (hF:qbS n a left=some r):RetV Tryz.prog 31 [GoT.v (List Int) cs1,.int .i64 left] w r:=by
 obtain ⟨p1,k1,rfl,s1⟩:=ha1
 refine zV 12 Tryz.func31 rfl fun h=>X0 18 rfl (qh rfl hF ?_ ?_)<;>intro hF
 ·exact X0 4 rfl (ri h hF rfl)
 exact X0 6 rfl (ri h hF rfl)
def qkX (_:Nat) (a:qaj) (left:Int):Option Int :=
 bif decide ((W64 (left-(a.Bb.size:Int)))<0) then some (-1) else
 some (W64 (left-(a.Bb.size:Int)))
theorem qsm {a:qaj} {left:Int} (ha1:Ro w a cs1) {r:Int} (hF:qkX n a left=some r):RetV Tryz.prog 204 [GoT.v qaj cs1,.int .i64 left] w r:=by
 obtain rfl:=qaZ ha1
 refine zV 13 Tryz.func204 rfl fun h=>zSR (qv h rfl rfl fun w1 bb1 h=>X1 17 0 h rfl (qh rfl hF ?_ ?_))<;>intro hF
 ·exact X0 4 rfl (ri h hF rfl)
 exact X0 6 rfl (ri h hF rfl)
def qfM (a:(List qaj)):Nat→Int→Int→Option (Flow Int (Int × Int))
 | 0,_,_=>none
 | n+1,i1,i2 =>
  bif decide (i2<(a.length:Int)) then
   (idx a i2).bind fun y1 =>
   (qkX n y1 i1).bind fun r1 =>
   bif decide (r1<0) then some (.ret (-1)) else
   qfM a n r1 (W64 (i2+1))
  else
   some (.nxt (i1,i2))
def qnk (n:Nat) (a:(List qaj)) (left:Int):Option Int :=
 bif decide ((W64 (left-(a.length:Int)))<0) then some (-1) else
 (qfM a n (W64 (left-(a.length:Int))) 0).bind fun o=>match o with
 | .ret r=>some r
 | .nxt (i1,_) =>
  some i1
theorem qrL {a:(List qaj)} {left:Int} (ha1:Ro w a cs1) {r:Int} (hF:qnk n a left=some r):RetV Tryz.prog 175 [GoT.v (List qaj) cs1,.int .i64 left] w r:=by
 obtain ⟨p1,k1,rfl,s1⟩:=ha1
 refine zV 27 Tryz.func175 rfl fun h=>X0 18 rfl (qh rfl hF ?_ ?_)<;>intro hF
 ·exact X0 4 rfl (ri h hF rfl)
 refine X0 6 rfl ?_
 obtain ⟨o1,hF,hK1⟩:=qc hF
 refine qm (rL (fun m e w'=>∃ (i1:Int) (i2:Int),qfM a m i1 i2=some o1∧e=[(0,.slice p1 a.length k1),(1,.int .i64 i1),(5,.int .i64 i2)]∧SH w w' []) n ⟨_,_,hF,rfl,h⟩ rfl ?_)
 rintro m1 e1 w1 ⟨i1,i2,hF,rfl,h⟩
 rcases m1 with _|m1
 ·cases hF
 refine X0 8 rfl (qh rfl hF ?_ ?_)<;>intro hF
 ·refine X0 7 rfl ?_
  obtain ⟨y1,hy1,hF,he1,b1,_,q1,cs2,hp1,hq1,hr1,hc3⟩:=s1.ix hF
  obtain rfl:=qaZ hr1
  refine zxe hp1 hq1 he1 rfl (zc 0 (hc3.below h.below) rfl (zp1 rfl (zcI h hF (qsm (qd1 y1)) rfl fun r1 w2 h hF=>X0 7 rfl (qh rfl hF ?_ ?_))))<;>intro hF
  ·refine X0 4 rfl ?_
   obtain rfl:=qb hF;replace hF:=hK1
   exact ri h hF rfl
  exact X0 7 rfl (rK ⟨_,_,hF,rfl,h⟩ rfl)
 refine qq rfl ?_
 obtain rfl:=qb hF;replace hF:=hK1
 exact X0 5 rfl (ri h hF rfl)
def qix (n:Nat) (a:qr) (left:Int):Option Int :=
 (qbS n a.Bm left).bind fun r1 =>
 bif decide (r1<0) then some (-1) else
 (qbS n a.Bj r1).bind fun r2 =>
 bif decide (r2<0) then some (-1) else
 (qbS n a.Bh r2).bind fun r3 =>
 bif decide (r3<0) then some (-1) else
 some r3
theorem qqN {a:qr} {left:Int} (ha1:Ro w a cs1) {r:Int} (hF:qix n a left=some r):RetV Tryz.prog 259 [GoT.v qr cs1,.int .i64 left] w r:=by
 obtain ⟨p1,k1,p2,k2,p3,k3,rfl,s1,s2,s3⟩:=qaE ha1
 refine zV 24 Tryz.func259 rfl fun h=>zSR (qv h rfl rfl fun w1 bb1 h=>X1 7 0 h rfl (zcI h hF (qbB ⟨_,_,rfl,(h.oldS s1)⟩) rfl fun r1 w2 h hF=>X0 8 rfl (qh rfl hF ?_ ?_)))<;>intro hF
 ·exact X0 4 rfl (ri h hF rfl)
 refine X1 6 0 h rfl (zcI h hF (qbB ⟨_,_,rfl,(h.oldS s2)⟩) rfl fun r2 w3 h hF=>X0 8 rfl (qh rfl hF ?_ ?_))<;>intro hF
 ·exact X0 4 rfl (ri h hF rfl)
 refine X1 6 0 h rfl (zcI h hF (qbB ⟨_,_,rfl,(h.oldS s3)⟩) rfl fun r3 w4 h hF=>X0 8 rfl (qh rfl hF ?_ ?_))<;>intro hF
 ·exact X0 4 rfl (ri h hF rfl)
 exact X0 6 rfl (ri h hF rfl)
def qet (a:(List qr)):Nat→Int→Int→Option (Flow Int (Int × Int))
 | 0,_,_=>none
 | n+1,i1,i2 =>
  bif decide (i2<(a.length:Int)) then
   (idx a i2).bind fun y1 =>
   (qix n y1 i1).bind fun r1 =>
   bif decide (r1<0) then some (.ret (-1)) else
   qet a n r1 (W64 (i2+1))
  else
   some (.nxt (i1,i2))
def qjq (n:Nat) (a:(List qr)) (left:Int):Option Int :=
 bif decide ((W64 (left-(a.length:Int)))<0) then some (-1) else
 (qet a n (W64 (left-(a.length:Int))) 0).bind fun o=>match o with
 | .ret r=>some r
 | .nxt (i1,_) =>
  some i1
theorem qmk {a:(List qr)} {left:Int} (ha1:Ro w a cs1) {r:Int} (hF:qjq n a left=some r):RetV Tryz.prog 236 [GoT.v (List qr) cs1,.int .i64 left] w r:=by
 obtain ⟨p1,k1,rfl,s1⟩:=ha1
 refine zV 27 Tryz.func236 rfl fun h=>X0 18 rfl (qh rfl hF ?_ ?_)<;>intro hF
 ·exact X0 4 rfl (ri h hF rfl)
 refine X0 6 rfl ?_
 obtain ⟨o1,hF,hK1⟩:=qc hF
 refine qm (rL (fun m e w'=>∃ (i1:Int) (i2:Int),qet a m i1 i2=some o1∧e=[(0,.slice p1 a.length k1),(1,.int .i64 i1),(5,.int .i64 i2)]∧SH w w' []) n ⟨_,_,hF,rfl,h⟩ rfl ?_)
 rintro m1 e1 w1 ⟨i1,i2,hF,rfl,h⟩
 rcases m1 with _|m1
 ·cases hF
 refine X0 8 rfl (qh rfl hF ?_ ?_)<;>intro hF
 ·refine X0 7 rfl ?_
  obtain ⟨y1,hy1,hF,he1,b1,_,q1,cs2,hp1,hq1,hr1,hc3⟩:=s1.ix hF
  obtain ⟨p2,k2,p3,k3,p4,k4,rfl,s2,s3,s4⟩:=qaE hr1
  refine zxe hp1 hq1 he1 rfl (zc 0 (hc3.below h.below) rfl (zp1 rfl (zcI h hF (qqN (qfs y1 (h.oldS s2) (h.oldS s3) (h.oldS s4))) rfl fun r1 w2 h hF=>X0 7 rfl (qh rfl hF ?_ ?_))))<;>intro hF
  ·refine X0 4 rfl ?_
   obtain rfl:=qb hF;replace hF:=hK1
   exact ri h hF rfl
  exact X0 7 rfl (rK ⟨_,_,hF,rfl,h⟩ rfl)
 refine qq rfl ?_
 obtain rfl:=qb hF;replace hF:=hK1
 exact X0 5 rfl (ri h hF rfl)
def qk7 (n:Nat) (a:qG) (left:Int):Option Int :=
 (qjq n a.Bn left).bind fun r1 =>
 bif decide (r1<0) then some (-1) else
 (qjq n a.Bc r1).bind fun r2 =>
 bif decide (r2<0) then some (-1) else
 some r2
theorem qr2 {a:qG} {left:Int} (ha1:Ro w a cs1) {r:Int} (hF:qk7 n a left=some r):RetV Tryz.prog 205 [GoT.v qG cs1,.int .i64 left] w r:=by
 obtain ⟨p1,k1,p2,k2,rfl,s1,s2⟩:=qae ha1
 refine zV 18 Tryz.func205 rfl fun h=>zSR (qv h rfl rfl fun w1 bb1 h=>X1 7 0 h rfl (zcI h hF (qmk ⟨_,_,rfl,(h.oldS s1)⟩) rfl fun r1 w2 h hF=>X0 8 rfl (qh rfl hF ?_ ?_)))<;>intro hF
 ·exact X0 4 rfl (ri h hF rfl)
 refine X1 6 0 h rfl (zcI h hF (qmk ⟨_,_,rfl,(h.oldS s2)⟩) rfl fun r2 w3 h hF=>X0 8 rfl (qh rfl hF ?_ ?_))<;>intro hF
 ·exact X0 4 rfl (ri h hF rfl)
 exact X0 6 rfl (ri h hF rfl)
def qfZ (a:(List qG)):Nat→Int→Int→Option (Flow Int (Int × Int))
 | 0,_,_=>none
 | n+1,i1,i2 =>
  bif decide (i2<(a.length:Int)) then
   (idx a i2).bind fun y1 =>
   (qk7 n y1 i1).bind fun r1 =>
   bif decide (r1<0) then some (.ret (-1)) else
   qfZ a n r1 (W64 (i2+1))
  else
   some (.nxt (i1,i2))
def qnw (n:Nat) (a:(List qG)) (left:Int):Option Int :=
 bif decide ((W64 (left-(a.length:Int)))<0) then some (-1) else
 (qfZ a n (W64 (left-(a.length:Int))) 0).bind fun o=>match o with
 | .ret r=>some r
 | .nxt (i1,_) =>
  some i1
theorem qrC {a:(List qG)} {left:Int} (ha1:Ro w a cs1) {r:Int} (hF:qnw n a left=some r):RetV Tryz.prog 176 [GoT.v (List qG) cs1,.int .i64 left] w r:=by
 obtain ⟨p1,k1,rfl,s1⟩:=ha1
 refine zV 27 Tryz.func176 rfl fun h=>X0 18 rfl (qh rfl hF ?_ ?_)<;>intro hF
 ·exact X0 4 rfl (ri h hF rfl)
 refine X0 6 rfl ?_
 obtain ⟨o1,hF,hK1⟩:=qc hF
 refine qm (rL (fun m e w'=>∃ (i1:Int) (i2:Int),qfZ a m i1 i2=some o1∧e=[(0,.slice p1 a.length k1),(1,.int .i64 i1),(5,.int .i64 i2)]∧SH w w' []) n ⟨_,_,hF,rfl,h⟩ rfl ?_)
 rintro m1 e1 w1 ⟨i1,i2,hF,rfl,h⟩
 rcases m1 with _|m1
 ·cases hF
 refine X0 8 rfl (qh rfl hF ?_ ?_)<;>intro hF
 ·refine X0 7 rfl ?_
  obtain ⟨y1,hy1,hF,he1,b1,_,q1,cs2,hp1,hq1,hr1,hc3⟩:=s1.ix hF
  obtain ⟨p2,k2,p3,k3,rfl,s2,s3⟩:=qae hr1
  refine zxe hp1 hq1 he1 rfl (zc 0 (hc3.below h.below) rfl (zp1 rfl (zcI h hF (qr2 (qfY y1 (h.oldS s2) (h.oldS s3))) rfl fun r1 w2 h hF=>X0 7 rfl (qh rfl hF ?_ ?_))))<;>intro hF
  ·refine X0 4 rfl ?_
   obtain rfl:=qb hF;replace hF:=hK1
   exact ri h hF rfl
  exact X0 7 rfl (rK ⟨_,_,hF,rfl,h⟩ rfl)
 refine qq rfl ?_
 obtain rfl:=qb hF;replace hF:=hK1
 exact X0 5 rfl (ri h hF rfl)
def qjQ (n:Nat) (a:qw) (left:Int):Option Int :=
 bif decide ((W64 (left-(a.Bb.size:Int)))<0) then some (-1) else
 (qnk n a.Bd (W64 (left-(a.Bb.size:Int)))).bind fun r1 =>
 bif decide (r1<0) then some (-1) else
 (qnw n a.Au r1).bind fun r2 =>
 bif decide (r2<0) then some (-1) else
 (qbS n a.Bo r2).bind fun r3 =>
 bif decide (r3<0) then some (-1) else
 some r3
theorem qrB {a:qw} {left:Int} (ha1:Ro w a cs1) {r:Int} (hF:qjQ n a left=some r):RetV Tryz.prog 140 [GoT.v qw cs1,.int .i64 left] w r:=by
 obtain ⟨p1,k1,p2,k2,p3,k3,rfl,s1,s2,s3⟩:=qad ha1
 refine zV 31 Tryz.func140 rfl fun h=>zSR (qv h rfl rfl fun w1 bb1 h=>X1 17 0 h rfl (qh rfl hF ?_ ?_))<;>intro hF
 ·exact X0 4 rfl (ri h hF rfl)
 refine X1 6 0 h rfl (zcI h hF (qrL ⟨_,_,rfl,(h.oldS s1)⟩) rfl fun r1 w2 h hF=>X0 8 rfl (qh rfl hF ?_ ?_))<;>intro hF
 ·exact X0 4 rfl (ri h hF rfl)
 refine X1 6 0 h rfl (zcI h hF (qrC ⟨_,_,rfl,(h.oldS s2)⟩) rfl fun r2 w3 h hF=>X0 8 rfl (qh rfl hF ?_ ?_))<;>intro hF
 ·exact X0 4 rfl (ri h hF rfl)
 refine X1 6 0 h rfl (zcI h hF (qbB ⟨_,_,rfl,(h.oldS s3)⟩) rfl fun r3 w4 h hF=>X0 8 rfl (qh rfl hF ?_ ?_))<;>intro hF
 ·exact X0 4 rfl (ri h hF rfl)
 exact X0 6 rfl (ri h hF rfl)
def qeW (a:(List qw)):Nat→Int→Int→Option (Flow Int (Int × Int))
 | 0,_,_=>none
 | n+1,i1,i2 =>
  bif decide (i2<(a.length:Int)) then
   (idx a i2).bind fun y1 =>
   (qjQ n y1 i1).bind fun r1 =>
   bif decide (r1<0) then some (.ret (-1)) else
   qeW a n r1 (W64 (i2+1))
  else
   some (.nxt (i1,i2))
def qmo (n:Nat) (a:(List qw)) (left:Int):Option Int :=
 bif decide ((W64 (left-(a.length:Int)))<0) then some (-1) else
 (qeW a n (W64 (left-(a.length:Int))) 0).bind fun o=>match o with
 | .ret r=>some r
 | .nxt (i1,_) =>
  some i1
theorem qqJ {a:(List qw)} {left:Int} (ha1:Ro w a cs1) {r:Int} (hF:qmo n a left=some r):RetV Tryz.prog 85 [GoT.v (List qw) cs1,.int .i64 left] w r:=by
 obtain ⟨p1,k1,rfl,s1⟩:=ha1
 refine zV 27 Tryz.func85 rfl fun h=>X0 18 rfl (qh rfl hF ?_ ?_)<;>intro hF
 ·exact X0 4 rfl (ri h hF rfl)
 refine X0 6 rfl ?_
 obtain ⟨o1,hF,hK1⟩:=qc hF
 refine qm (rL (fun m e w'=>∃ (i1:Int) (i2:Int),qeW a m i1 i2=some o1∧e=[(0,.slice p1 a.length k1),(1,.int .i64 i1),(5,.int .i64 i2)]∧SH w w' []) n ⟨_,_,hF,rfl,h⟩ rfl ?_)
 rintro m1 e1 w1 ⟨i1,i2,hF,rfl,h⟩
 rcases m1 with _|m1
 ·cases hF
 refine X0 8 rfl (qh rfl hF ?_ ?_)<;>intro hF
 ·refine X0 7 rfl ?_
  obtain ⟨y1,hy1,hF,he1,b1,_,q1,cs2,hp1,hq1,hr1,hc3⟩:=s1.ix hF
  obtain ⟨p2,k2,p3,k3,p4,k4,rfl,s2,s3,s4⟩:=qad hr1
  refine zxe hp1 hq1 he1 rfl (zc 0 (hc3.below h.below) rfl (zp1 rfl (zcI h hF (qrB (qkJ y1 (h.oldS s2) (h.oldS s3) (h.oldS s4))) rfl fun r1 w2 h hF=>X0 7 rfl (qh rfl hF ?_ ?_))))<;>intro hF
  ·refine X0 4 rfl ?_
   obtain rfl:=qb hF;replace hF:=hK1
   exact ri h hF rfl
  exact X0 7 rfl (rK ⟨_,_,hF,rfl,h⟩ rfl)
 refine qq rfl ?_
 obtain rfl:=qb hF;replace hF:=hK1
 exact X0 5 rfl (ri h hF rfl)
def qiR (n:Nat) (a:qn) (left:Int):Option Int :=
 (qmo n a.As left).bind fun r1 =>
 bif decide (r1<0) then some (-1) else
 some r1
theorem qpn {a:qn} {left:Int} (ha1:Ro w a cs1) {r:Int} (hF:qiR n a left=some r):RetV Tryz.prog 56 [GoT.v qn cs1,.int .i64 left] w r:=by
 obtain ⟨p1,k1,rfl,s1⟩:=qbz ha1
 refine zV 12 Tryz.func56 rfl fun h=>zSR (qv h rfl rfl fun w1 bb1 h=>X1 7 0 h rfl (zcI h hF (qqJ ⟨_,_,rfl,(h.oldS s1)⟩) rfl fun r1 w2 h hF=>X0 8 rfl (qh rfl hF ?_ ?_)))<;>intro hF
 ·exact X0 4 rfl (ri h hF rfl)
 exact X0 6 rfl (ri h hF rfl)
def qgj (n:Nat) (a:qi) (left:Int):Option Int :=
 bif decide ((W64 (left-(a.Bb.size:Int)))<0) then some (-1) else
 (qbS n a.Ak (W64 (left-(a.Bb.size:Int)))).bind fun r1 =>
 bif decide (r1<0) then some (-1) else
 some r1
theorem qov {a:qi} {left:Int} (ha1:Ro w a cs1) {r:Int} (hF:qgj n a left=some r):RetV Tryz.prog 141 [GoT.v qi cs1,.int .i64 left] w r:=by
 obtain ⟨p1,k1,rfl,s1⟩:=qP ha1
 refine zV 19 Tryz.func141 rfl fun h=>zSR (qv h rfl rfl fun w1 bb1 h=>X1 17 0 h rfl (qh rfl hF ?_ ?_))<;>intro hF
 ·exact X0 4 rfl (ri h hF rfl)
 refine X1 6 0 h rfl (zcI h hF (qbB ⟨_,_,rfl,(h.oldS s1)⟩) rfl fun r1 w2 h hF=>X0 8 rfl (qh rfl hF ?_ ?_))<;>intro hF
 ·exact X0 4 rfl (ri h hF rfl)
 exact X0 6 rfl (ri h hF rfl)
def qcY (a:(List qi)):Nat→Int→Int→Option (Flow Int (Int × Int))
 | 0,_,_=>none
 | n+1,i1,i2 =>
  bif decide (i2<(a.length:Int)) then
   (idx a i2).bind fun y1 =>
   (qgj n y1 i1).bind fun r1 =>
   bif decide (r1<0) then some (.ret (-1)) else
   qcY a n r1 (W64 (i2+1))
  else
   some (.nxt (i1,i2))
def qjf (n:Nat) (a:(List qi)) (left:Int):Option Int :=
 bif decide ((W64 (left-(a.length:Int)))<0) then some (-1) else
 (qcY a n (W64 (left-(a.length:Int))) 0).bind fun o=>match o with
 | .ret r=>some r
 | .nxt (i1,_) =>
  some i1
theorem qod {a:(List qi)} {left:Int} (ha1:Ro w a cs1) {r:Int} (hF:qjf n a left=some r):RetV Tryz.prog 86 [GoT.v (List qi) cs1,.int .i64 left] w r:=by
 obtain ⟨p1,k1,rfl,s1⟩:=ha1
 refine zV 27 Tryz.func86 rfl fun h=>X0 18 rfl (qh rfl hF ?_ ?_)<;>intro hF
 ·exact X0 4 rfl (ri h hF rfl)
 refine X0 6 rfl ?_
 obtain ⟨o1,hF,hK1⟩:=qc hF
 refine qm (rL (fun m e w'=>∃ (i1:Int) (i2:Int),qcY a m i1 i2=some o1∧e=[(0,.slice p1 a.length k1),(1,.int .i64 i1),(5,.int .i64 i2)]∧SH w w' []) n ⟨_,_,hF,rfl,h⟩ rfl ?_)
 rintro m1 e1 w1 ⟨i1,i2,hF,rfl,h⟩
 rcases m1 with _|m1
 ·cases hF
 refine X0 8 rfl (qh rfl hF ?_ ?_)<;>intro hF
 ·refine X0 7 rfl ?_
  obtain ⟨y1,hy1,hF,he1,b1,_,q1,cs2,hp1,hq1,hr1,hc3⟩:=s1.ix hF
  obtain ⟨p2,k2,rfl,s2⟩:=qP hr1
  refine zxe hp1 hq1 he1 rfl (zc 0 (hc3.below h.below) rfl (zp1 rfl (zcI h hF (qov (qgy y1 (h.oldS s2))) rfl fun r1 w2 h hF=>X0 7 rfl (qh rfl hF ?_ ?_))))<;>intro hF
  ·refine X0 4 rfl ?_
   obtain rfl:=qb hF;replace hF:=hK1
   exact ri h hF rfl
  exact X0 7 rfl (rK ⟨_,_,hF,rfl,h⟩ rfl)
 refine qq rfl ?_
 obtain rfl:=qb hF;replace hF:=hK1
 exact X0 5 rfl (ri h hF rfl)
def qdE (a:(List ByteArray)):Nat→Int→Int→Option (Flow Int (Int × Int))
 | 0,_,_=>none
 | n+1,i1,i2 =>
  bif decide (i2<(a.length:Int)) then
   (idx a i2).bind fun y1 =>
   bif decide ((W64 (i1-(y1.size:Int)))<0) then some (.ret (-1)) else
   qdE a n (W64 (i1-(y1.size:Int))) (W64 (i2+1))
  else
   some (.nxt (i1,i2))
def qlb (n:Nat) (a:(List ByteArray)) (left:Int):Option Int :=
 bif decide ((W64 (left-(a.length:Int)))<0) then some (-1) else
 (qdE a n (W64 (left-(a.length:Int))) 0).bind fun o=>match o with
 | .ret r=>some r
 | .nxt (i1,_) =>
  some i1
theorem qoS {a:(List ByteArray)} {left:Int} (ha1:Ro w a cs1) {r:Int} (hF:qlb n a left=some r):RetV Tryz.prog 87 [GoT.v (List ByteArray) cs1,.int .i64 left] w r:=by
 obtain ⟨p1,k1,rfl,s1⟩:=ha1
 refine zV 28 Tryz.func87 rfl fun h=>X0 18 rfl (qh rfl hF ?_ ?_)<;>intro hF
 ·exact X0 4 rfl (ri h hF rfl)
 refine X0 6 rfl ?_
 obtain ⟨o1,hF,hK1⟩:=qc hF
 refine qm (rL (fun m e w'=>∃ (i1:Int) (i2:Int),qdE a m i1 i2=some o1∧e=[(0,.slice p1 a.length k1),(1,.int .i64 i1),(5,.int .i64 i2)]∧SH w w' []) n ⟨_,_,hF,rfl,h⟩ rfl ?_)
 rintro m1 e1 w1 ⟨i1,i2,hF,rfl,h⟩
 rcases m1 with _|m1
 ·cases hF
 refine X0 8 rfl (qh rfl hF ?_ ?_)<;>intro hF
 ·refine X0 8 rfl ?_
  obtain ⟨y1,hy1,hF,he1,b1,_,q1,cs2,hp1,hq1,rfl,hc3⟩:=s1.ix hF
  refine zxe hp1 hq1 he1 rfl (zc 0 (hc3.below h.below) rfl (X0 9 rfl (qh rfl hF ?_ ?_)))<;>intro hF
  ·refine X0 4 rfl ?_
   obtain rfl:=qb hF;replace hF:=hK1
   exact ri h hF rfl
  exact X0 7 rfl (rK ⟨_,_,hF,rfl,h⟩ rfl)
 refine qq rfl ?_
 obtain rfl:=qb hF;replace hF:=hK1
 exact X0 5 rfl (ri h hF rfl)
def qjM (_:Nat) (a:qK) (left:Int):Option Int :=
 bif decide ((W64 (left-(a.Bb.size:Int)))<0) then some (-1) else
 some (W64 (left-(a.Bb.size:Int)))
theorem qrK {a:qK} {left:Int} (ha1:Ro w a cs1) {r:Int} (hF:qjM n a left=some r):RetV Tryz.prog 142 [GoT.v qK cs1,.int .i64 left] w r:=by
 obtain rfl:=qaV ha1
 refine zV 13 Tryz.func142 rfl fun h=>zSR (qv h rfl rfl fun w1 bb1 h=>X1 17 0 h rfl (qh rfl hF ?_ ?_))<;>intro hF
 ·exact X0 4 rfl (ri h hF rfl)
 exact X0 6 rfl (ri h hF rfl)
def qe5 (a:(List qK)):Nat→Int→Int→Option (Flow Int (Int × Int))
 | 0,_,_=>none
 | n+1,i1,i2 =>
  bif decide (i2<(a.length:Int)) then
   (idx a i2).bind fun y1 =>
   (qjM n y1 i1).bind fun r1 =>
   bif decide (r1<0) then some (.ret (-1)) else
   qe5 a n r1 (W64 (i2+1))
  else
   some (.nxt (i1,i2))
def qmN (n:Nat) (a:(List qK)) (left:Int):Option Int :=
 bif decide ((W64 (left-(a.length:Int)))<0) then some (-1) else
 (qe5 a n (W64 (left-(a.length:Int))) 0).bind fun o=>match o with
 | .ret r=>some r
 | .nxt (i1,_) =>
  some i1
theorem qqD {a:(List qK)} {left:Int} (ha1:Ro w a cs1) {r:Int} (hF:qmN n a left=some r):RetV Tryz.prog 88 [GoT.v (List qK) cs1,.int .i64 left] w r:=by
 obtain ⟨p1,k1,rfl,s1⟩:=ha1
 refine zV 27 Tryz.func88 rfl fun h=>X0 18 rfl (qh rfl hF ?_ ?_)<;>intro hF
 ·exact X0 4 rfl (ri h hF rfl)
 refine X0 6 rfl ?_
 obtain ⟨o1,hF,hK1⟩:=qc hF
 refine qm (rL (fun m e w'=>∃ (i1:Int) (i2:Int),qe5 a m i1 i2=some o1∧e=[(0,.slice p1 a.length k1),(1,.int .i64 i1),(5,.int .i64 i2)]∧SH w w' []) n ⟨_,_,hF,rfl,h⟩ rfl ?_)
 rintro m1 e1 w1 ⟨i1,i2,hF,rfl,h⟩
 rcases m1 with _|m1
 ·cases hF
 refine X0 8 rfl (qh rfl hF ?_ ?_)<;>intro hF
 ·refine X0 7 rfl ?_
  obtain ⟨y1,hy1,hF,he1,b1,_,q1,cs2,hp1,hq1,hr1,hc3⟩:=s1.ix hF
  obtain rfl:=qaV hr1
  refine zxe hp1 hq1 he1 rfl (zc 0 (hc3.below h.below) rfl (zp1 rfl (zcI h hF (qrK (qes y1)) rfl fun r1 w2 h hF=>X0 7 rfl (qh rfl hF ?_ ?_))))<;>intro hF
  ·refine X0 4 rfl ?_
   obtain rfl:=qb hF;replace hF:=hK1
   exact ri h hF rfl
  exact X0 7 rfl (rK ⟨_,_,hF,rfl,h⟩ rfl)
 refine qq rfl ?_
 obtain rfl:=qb hF;replace hF:=hK1
 exact X0 5 rfl (ri h hF rfl)
def qjD (n:Nat) (a:qd) (left:Int):Option Int :=
 (qjf n a.Aa left).bind fun r1 =>
 bif decide (r1<0) then some (-1) else
 (qlb n a.Ak r1).bind fun r2 =>
 bif decide (r2<0) then some (-1) else
 (qmN n a.Aj r2).bind fun r3 =>
 bif decide (r3<0) then some (-1) else
 some r3
theorem qpL {a:qd} {left:Int} (ha1:Ro w a cs1) {r:Int} (hF:qjD n a left=some r):RetV Tryz.prog 57 [GoT.v qd cs1,.int .i64 left] w r:=by
 obtain ⟨p1,k1,p2,k2,p3,k3,rfl,s1,s2,s3⟩:=qay ha1
 refine zV 24 Tryz.func57 rfl fun h=>zSR (qv h rfl rfl fun w1 bb1 h=>X1 7 0 h rfl (zcI h hF (qod ⟨_,_,rfl,(h.oldS s1)⟩) rfl fun r1 w2 h hF=>X0 8 rfl (qh rfl hF ?_ ?_)))<;>intro hF
 ·exact X0 4 rfl (ri h hF rfl)
 refine X1 6 0 h rfl (zcI h hF (qoS ⟨_,_,rfl,(h.oldS s2)⟩) rfl fun r2 w3 h hF=>X0 8 rfl (qh rfl hF ?_ ?_))<;>intro hF
 ·exact X0 4 rfl (ri h hF rfl)
 refine X1 6 0 h rfl (zcI h hF (qqD ⟨_,_,rfl,(h.oldS s3)⟩) rfl fun r3 w4 h hF=>X0 8 rfl (qh rfl hF ?_ ?_))<;>intro hF
 ·exact X0 4 rfl (ri h hF rfl)
 exact X0 6 rfl (ri h hF rfl)
def qjF (n:Nat) (a:qD) (left:Int):Option Int :=
 (qbS n a.Am left).bind fun r1 =>
 bif decide (r1<0) then some (-1) else
 (qbS n a.Bw r1).bind fun r2 =>
 bif decide (r2<0) then some (-1) else
 (qbS n a.Bs r2).bind fun r3 =>
 bif decide (r3<0) then some (-1) else
 (qbS n a.Bl r3).bind fun r4 =>
 bif decide (r4<0) then some (-1) else
 some r4
theorem qrI {a:qD} {left:Int} (ha1:Ro w a cs1) {r:Int} (hF:qjF n a left=some r):RetV Tryz.prog 89 [GoT.v qD cs1,.int .i64 left] w r:=by
 obtain ⟨p1,k1,p2,k2,p3,k3,p4,k4,rfl,s1,s2,s3,s4⟩:=qaN ha1
 refine zV 30 Tryz.func89 rfl fun h=>zSR (qv h rfl rfl fun w1 bb1 h=>X1 7 0 h rfl (zcI h hF (qbB ⟨_,_,rfl,(h.oldS s1)⟩) rfl fun r1 w2 h hF=>X0 8 rfl (qh rfl hF ?_ ?_)))<;>intro hF
 ·exact X0 4 rfl (ri h hF rfl)
 refine X1 6 0 h rfl (zcI h hF (qbB ⟨_,_,rfl,(h.oldS s2)⟩) rfl fun r2 w3 h hF=>X0 8 rfl (qh rfl hF ?_ ?_))<;>intro hF
 ·exact X0 4 rfl (ri h hF rfl)
 refine X1 6 0 h rfl (zcI h hF (qbB ⟨_,_,rfl,(h.oldS s3)⟩) rfl fun r3 w4 h hF=>X0 8 rfl (qh rfl hF ?_ ?_))<;>intro hF
 ·exact X0 4 rfl (ri h hF rfl)
 refine X1 6 0 h rfl (zcI h hF (qbB ⟨_,_,rfl,(h.oldS s4)⟩) rfl fun r4 w5 h hF=>X0 8 rfl (qh rfl hF ?_ ?_))<;>intro hF
 ·exact X0 4 rfl (ri h hF rfl)
 exact X0 6 rfl (ri h hF rfl)
def qe0 (a:(List qD)):Nat→Int→Int→Option (Flow Int (Int × Int))
 | 0,_,_=>none
 | n+1,i1,i2 =>
  bif decide (i2<(a.length:Int)) then
   (idx a i2).bind fun y1 =>
   (qjF n y1 i1).bind fun r1 =>
   bif decide (r1<0) then some (.ret (-1)) else
   qe0 a n r1 (W64 (i2+1))
  else
   some (.nxt (i1,i2))
def qmr (n:Nat) (a:(List qD)) (left:Int):Option Int :=
 bif decide ((W64 (left-(a.length:Int)))<0) then some (-1) else
 (qe0 a n (W64 (left-(a.length:Int))) 0).bind fun o=>match o with
 | .ret r=>some r
 | .nxt (i1,_) =>
  some i1
theorem qqi {a:(List qD)} {left:Int} (ha1:Ro w a cs1) {r:Int} (hF:qmr n a left=some r):RetV Tryz.prog 58 [GoT.v (List qD) cs1,.int .i64 left] w r:=by
 obtain ⟨p1,k1,rfl,s1⟩:=ha1
 refine zV 27 Tryz.func58 rfl fun h=>X0 18 rfl (qh rfl hF ?_ ?_)<;>intro hF
 ·exact X0 4 rfl (ri h hF rfl)
 refine X0 6 rfl ?_
 obtain ⟨o1,hF,hK1⟩:=qc hF
 refine qm (rL (fun m e w'=>∃ (i1:Int) (i2:Int),qe0 a m i1 i2=some o1∧e=[(0,.slice p1 a.length k1),(1,.int .i64 i1),(5,.int .i64 i2)]∧SH w w' []) n ⟨_,_,hF,rfl,h⟩ rfl ?_)
 rintro m1 e1 w1 ⟨i1,i2,hF,rfl,h⟩
 rcases m1 with _|m1
 ·cases hF
 refine X0 8 rfl (qh rfl hF ?_ ?_)<;>intro hF
 ·refine X0 7 rfl ?_
  obtain ⟨y1,hy1,hF,he1,b1,_,q1,cs2,hp1,hq1,hr1,hc3⟩:=s1.ix hF
  obtain ⟨p2,k2,p3,k3,p4,k4,p5,k5,rfl,s2,s3,s4,s5⟩:=qaN hr1
  refine zxe hp1 hq1 he1 rfl (zc 0 (hc3.below h.below) rfl (zp1 rfl (zcI h hF (qrI (qkC y1 (h.oldS s2) (h.oldS s3) (h.oldS s4) (h.oldS s5))) rfl fun r1 w2 h hF=>X0 7 rfl (qh rfl hF ?_ ?_))))<;>intro hF
  ·refine X0 4 rfl ?_
   obtain rfl:=qb hF;replace hF:=hK1
   exact ri h hF rfl
  exact X0 7 rfl (rK ⟨_,_,hF,rfl,h⟩ rfl)
 refine qq rfl ?_
 obtain rfl:=qb hF;replace hF:=hK1
 exact X0 5 rfl (ri h hF rfl)
def qkg (n:Nat) (a:qg) (left:Int):Option Int :=
 (qiR n (⟨a.Av.As⟩:qn) left).bind fun r1 =>
 bif decide (r1<0) then some (-1) else
 (qjD n (⟨a.Ab.Aa,a.Ab.Ak,a.Ab.Aj⟩:qd) r1).bind fun r2 =>
 bif decide (r2<0) then some (-1) else
 (qmr n a.Ac r2).bind fun r3 =>
 bif decide (r3<0) then some (-1) else
 some r3
theorem qqx {a:qg} {left:Int} (ha1:Ro w a cs1) {r:Int} (hF:qkg n a left=some r):RetV Tryz.prog 29 [GoT.v qg cs1,.int .i64 left] w r:=by
 obtain ⟨p1,k1,p2,k2,p3,k3,p4,k4,p5,k5,rfl,s1,s2,s3,s4,s5⟩:=qac ha1
 refine zV 24 Tryz.func29 rfl fun h=>zSR (qv h rfl rfl fun w1 bb1 h=>X1 7 0 h rfl (zcI h hF (qpn (qd9 _ (h.oldS s1))) rfl fun r1 w2 h hF=>X0 8 rfl (qh rfl hF ?_ ?_)))<;>intro hF
 ·exact X0 4 rfl (ri h hF rfl)
 refine X1 6 0 h rfl (zcI h hF (qpL (qar _ (h.oldS s2) (h.oldS s3) (h.oldS s4))) rfl fun r2 w3 h hF=>X0 8 rfl (qh rfl hF ?_ ?_))<;>intro hF
 ·exact X0 4 rfl (ri h hF rfl)
 refine X1 6 0 h rfl (zcI h hF (qqi ⟨_,_,rfl,(h.oldS s5)⟩) rfl fun r3 w4 h hF=>X0 8 rfl (qh rfl hF ?_ ?_))<;>intro hF
 ·exact X0 4 rfl (ri h hF rfl)
 exact X0 6 rfl (ri h hF rfl)
def qfQ (a:(List Int)):Nat→(List Int)→Int→Option ((List Int) × Int)
 | 0,_,_=>none
 | n+1,x2,i1 =>
  bif decide (i1<(a.length:Int)) then
   (idx a i1).bind fun y1 =>
   (idx x2 i1).bind fun _ =>
   qfQ a n (setS x2 i1 y1) (W64 (i1+1))
  else
   some (x2,i1)
def qaQ (n:Nat) (a:(List Int)):Option (List Int) :=
 (mkS (a.length:Int) (0:Int)).bind fun x1 =>
 (qfQ a n x1 0).bind fun o=>match o with
 | (x2,_) =>
  some x2
theorem qaH {a:(List Int)} (ha1:Ro w a cs1) {r:(List Int)} (hF:qaQ n a=some r):RetV Tryz.prog 12 [GoT.v (List Int) cs1] w r:=by
 obtain ⟨p1,k1,rfl,s1⟩:=ha1
 refine zV 22 Tryz.func12 rfl fun h=>X0 8 rfl ?_
 obtain ⟨x1,hx1,hF⟩:=qc hF
 obtain ⟨g1,g2,hx1⟩:=qU hx1
 refine qam qa Int h rfl rfl rfl rfl rfl rfl rfl rfl rfl g1 g2 hx1 rfl fun w1 S1 p2 h=>X0 7 rfl ?_
 obtain ⟨o1,hF,hK1⟩:=qc hF
 refine qm (rL (fun m e w'=>∃ (x2:(List Int)) (i1:Int),qfQ a m x2 i1=some o1∧e=[(0,.slice p1 a.length k1),(3,.slice p2 x1.length x1.length),(4,.int .i64 i1)]∧SH w w' [Ch.own S1 (x2:List Int) [.slice p2 x1.length x1.length]]) n ⟨_,_,hF,rfl,h⟩ rfl ?_)
 rintro m1 e1 w2 ⟨x2,i1,hF,rfl,h⟩
 rcases m1 with _|m1
 ·cases hF
 refine X0 8 rfl (qh rfl hF ?_ ?_)<;>intro hF
 ·refine X0 8 rfl ?_
  obtain ⟨y1,hy1,hF,he1,b1,_,q1,cs2,hp1,hq1,rfl,hc2⟩:=s1.ix hF
  refine zxe hp1 hq1 he1 rfl (zc 0 (hc2.below h.below) rfl ?_)
  obtain ⟨y2,hy2,hF,he2,b2,_,q2,cs3,hp2,hq2,rfl,hc3⟩:=(h.sl 0 rfl).1.ix hF
  exact zx hp2 hq2 ⟨he2.1,qC he2.2.1 (h.sl 0 rfl).2⟩ rfl (qaA qa 0 0 y1 h rfl hy2 hp2 hq2 rfl hc3 rfl rfl rfl rfl rfl rfl rfl fun w3 h=>X0 7 rfl (rK ⟨_,_,hF,rfl,h⟩ rfl))
 refine qq rfl ?_
 obtain rfl:=qb hF;replace hF:=hK1
 refine X0 5 rfl ?_
 obtain rfl:=qb hF
 exact rO 0 h rfl ⟨rfl,trivial⟩
def qk4 (_:Nat) (a:qaj):Option qaj :=
 some (⟨a.Bb,a.Bv,a.Bs,a.Br⟩:qaj)
theorem qrZ {a:qaj} (ha1:Ro w a cs1) {r:qaj} (hF:qk4 n a=some r):RetV Tryz.prog 209 [GoT.v qaj cs1] w r:=by
 obtain rfl:=qaZ ha1
 refine zV 17 Tryz.func209 rfl fun h=>zSR (qv h rfl rfl fun w1 bb1 h=>qp qa h rfl rfl rfl fun w2 bb2 h=>zNSR (qp qa h rfl rfl rfl fun w3 bb3 h=>X1 6 2 h rfl (zs 0 h rfl fun w4 h=>X1 6 2 h rfl (zs 0 h rfl fun w5 h=>X1 6 2 h rfl (zs 0 h rfl fun w6 h=>X1 6 2 h rfl (zs 0 h rfl fun w7 h=>X1 4 0 h rfl (zs 1 h rfl fun w8 h=>qcH ?_)))))))
 obtain rfl:=qb hF
 exact qT qa (ρ:=qaj) [GoT.v qaj (qpA a)] h ⟨⟨_,_,_,rfl,rfl,h.box 1 rfl,rfl⟩,trivial⟩ (PV.done h (qZ (qx (S:=fun _=>False) (qd1 (⟨a.Bb,a.Bv,a.Bs,a.Br⟩:qaj)))))
def qg9 (a:(List qaj)):Nat→(List qaj)→Int→Option ((List qaj) × Int)
 | 0,_,_=>none
 | n+1,x2,i1 =>
  bif decide (i1<(a.length:Int)) then
   (idx a i1).bind fun y1 =>
   (qk4 n y1).bind fun r1 =>
   (idx x2 i1).bind fun _ =>
   qg9 a n (setS x2 i1 r1) (W64 (i1+1))
  else
   some (x2,i1)
def qlC (n:Nat) (a:(List qaj)):Option (List qaj) :=
 (mkS (a.length:Int) ((⟨ByteArray.empty,0,0,false⟩:qaj):qaj)).bind fun x1 =>
 (qg9 a n x1 0).bind fun o=>match o with
 | (x2,_) =>
  some x2
theorem qqZ {a:(List qaj)} (ha1:Ro w a cs1) {r:(List qaj)} (hF:qlC n a=some r):RetV Tryz.prog 184 [GoT.v (List qaj) cs1] w r:=by
 obtain ⟨p1,k1,rfl,s1⟩:=ha1
 refine zV 23 Tryz.func184 rfl fun h=>X0 8 rfl ?_
 obtain ⟨x1,hx1,hF⟩:=qc hF
 obtain ⟨g1,g2,hx1⟩:=qU hx1
 refine qam qa qaj h rfl rfl rfl rfl rfl rfl rfl rfl rfl g1 g2 hx1 rfl fun w1 S1 p2 h=>X0 7 rfl ?_
 obtain ⟨o1,hF,hK1⟩:=qc hF
 refine qm (rL (fun m e w'=>∃ (x2:(List qaj)) (i1:Int),qg9 a m x2 i1=some o1∧e=[(0,.slice p1 a.length k1),(3,.slice p2 x1.length x1.length),(4,.int .i64 i1)]∧SH w w' [Ch.own S1 (x2:List qaj) [.slice p2 x1.length x1.length]]) n ⟨_,_,hF,rfl,h⟩ rfl ?_)
 rintro m1 e1 w2 ⟨x2,i1,hF,rfl,h⟩
 rcases m1 with _|m1
 ·cases hF
 refine X0 8 rfl (qh rfl hF ?_ ?_)<;>intro hF
 ·refine X0 8 rfl ?_
  obtain ⟨y1,hy1,hF,he1,b1,_,q1,cs2,hp1,hq1,hr1,hc2⟩:=s1.ix hF
  obtain rfl:=qaZ hr1
  refine zxe hp1 hq1 he1 rfl (zc 0 (hc2.below h.below) rfl (zcO h hF (qrZ (qd1 y1)) rfl fun r1 w3 S2 cs3 h hF=>?_))
  obtain rfl:=qaZ (h.own 0 rfl)
  obtain ⟨y2,hy2,hF,he2,b2,_,q2,cs4,hp2,hq2,hr3,hc3⟩:=(h.sl 1 rfl).1.ix hF
  obtain rfl:=qaZ hr3
  refine zx hp2 hq2 ⟨he2.1,qC he2.2.1 (h.sl 1 rfl).2⟩ rfl (qaA qa 1 0 r1 h rfl hy2 hp2 hq2 (qd1 y2) hc3 rfl rfl rfl (qd1 r1) rfl rfl rfl fun w4 h=>X0 7 rfl ?_)
  replace h:=h.pick [1] rfl
  exact rK ⟨_,_,hF,rfl,h⟩ rfl
 refine qq rfl ?_
 obtain rfl:=qb hF;replace hF:=hK1
 refine X0 5 rfl ?_
 obtain rfl:=qb hF
 exact rO 0 h rfl ⟨rfl,trivial⟩
def qiD (n:Nat) (a:qr):Option qr :=
 (qaQ n a.Bm).bind fun r1 =>
 (qaQ n a.Bj).bind fun r2 =>
 (qaQ n a.Bh).bind fun r3 =>
 some (⟨r1,r2,r3⟩:qr)
theorem qqm {a:qr} (ha1:Ro w a cs1) {r:qr} (hF:qiD n a=some r):RetV Tryz.prog 263 [GoT.v qr cs1] w r:=by
 obtain ⟨p1,k1,p2,k2,p3,k3,rfl,s1,s2,s3⟩:=qaE ha1
 refine zV 17 Tryz.func263 rfl fun h=>zSR (qv h rfl rfl fun w1 bb1 h=>qp qa h rfl rfl rfl fun w2 bb2 h=>zNSR (qp qa h rfl rfl rfl fun w3 bb3 h=>X1 5 2 h rfl (zcL h hF (qaH ⟨_,_,rfl,(h.oldS s1)⟩) rfl fun r1 w4 S1 p4 k4 h hF=>zp1 rfl (zs 1 h rfl fun w5 h=>X1 5 3 h rfl (zcL h hF (qaH ⟨_,_,rfl,(h.oldS s2)⟩) rfl fun r2 w6 S2 p5 k5 h hF=>zp1 rfl (zs 2 h rfl fun w7 h=>X1 5 4 h rfl (zcL h hF (qaH ⟨_,_,rfl,(h.oldS s3)⟩) rfl fun r3 w8 S3 p6 k6 h hF=>zp1 rfl (zs 3 h rfl fun w9 h=>X1 4 3 h rfl (zs 4 h rfl fun w10 h=>qcH ?_)))))))))
 obtain rfl:=qb hF
 exact qT qa (ρ:=qr) [GoT.v qr [.slice p4 r1.length k4,.slice p5 r2.length k5,.slice p6 r3.length k6]] h ⟨⟨_,_,_,rfl,rfl,h.box 4 rfl,rfl⟩,trivial⟩ (PV.done h (qZ (qsy (⟨r1,r2,r3⟩:qr) h (qag 2 h rfl) (qag 1 h rfl) (qag 0 h rfl) (by rfl) (by rfl))))
def qfP (a:(List qr)):Nat→(List qr)→Int→Option ((List qr) × Int)
 | 0,_,_=>none
 | n+1,x2,i1 =>
  bif decide (i1<(a.length:Int)) then
   (idx a i1).bind fun y1 =>
   (qiD n y1).bind fun r1 =>
   (idx x2 i1).bind fun _ =>
   qfP a n (setS x2 i1 r1) (W64 (i1+1))
  else
   some (x2,i1)
def qhV (n:Nat) (a:(List qr)):Option (List qr) :=
 (mkS (a.length:Int) ((⟨[],[],[]⟩:qr):qr)).bind fun x1 =>
 (qfP a n x1 0).bind fun o=>match o with
 | (x2,_) =>
  some x2
theorem ql7 {a:(List qr)} (ha1:Ro w a cs1) {r:(List qr)} (hF:qhV n a=some r):RetV Tryz.prog 238 [GoT.v (List qr) cs1] w r:=by
 obtain ⟨p1,k1,rfl,s1⟩:=ha1
 refine zV 23 Tryz.func238 rfl fun h=>X0 8 rfl ?_
 obtain ⟨x1,hx1,hF⟩:=qc hF
 obtain ⟨g1,g2,hx1⟩:=qU hx1
 refine qam qa qr h rfl rfl rfl rfl rfl rfl rfl rfl rfl g1 g2 hx1 rfl fun w1 S1 p2 h=>X0 7 rfl ?_
 obtain ⟨o1,hF,hK1⟩:=qc hF
 refine qm (rL (fun m e w'=>∃ (S2:Nat→Prop) (x2:(List qr)) (i1:Int),qfP a m x2 i1=some o1∧e=[(0,.slice p1 a.length k1),(3,.slice p2 x1.length x1.length),(4,.int .i64 i1)]∧SH w w' [Ch.own S2 (x2:List qr) [.slice p2 x1.length x1.length]]) n ⟨_,_,_,hF,rfl,h⟩ rfl ?_)
 rintro m1 e1 w2 ⟨S2,x2,i1,hF,rfl,h⟩
 rcases m1 with _|m1
 ·cases hF
 refine X0 8 rfl (qh rfl hF ?_ ?_)<;>intro hF
 ·refine X0 8 rfl ?_
  obtain ⟨y1,hy1,hF,he1,b1,_,q1,cs2,hp1,hq1,hr1,hc2⟩:=s1.ix hF
  obtain ⟨p3,k2,p4,k3,p5,k4,rfl,s2,s3,s4⟩:=qaE hr1
  refine zxe hp1 hq1 he1 rfl (zc 0 (hc2.below h.below) rfl (zcO h hF (qqm (qfs y1 (h.oldS s2) (h.oldS s3) (h.oldS s4))) rfl fun r1 w3 S3 cs3 h hF=>?_))
  obtain ⟨p6,k5,p7,k6,p8,k7,rfl,-,-,-⟩:=qaE (h.own 0 rfl)
  obtain ⟨y2,hy2,hF⟩:=qc hF
  have he2:=qcG hy2
  replace h:=h.lrn0 1 rfl
  obtain ⟨b2,o_2,q2,cs4,hp2,hq2,-,hr3,hc3⟩:=(qlm (h.lrnO 1 rfl)).1.at hy2
  have hr4:=hr3
  obtain ⟨p9,k8,p10,k9,p11,k10,rfl,s8,s9,s10⟩:=qaE hr3
  replace h:=h.lrnAdd 1 rfl hr4
  refine zx hp2 hq2 ⟨he2.1,qC he2.2.1 (qlm (h.lrnO 1 rfl)).2⟩ rfl ?_
  replace h:=h.unlrn 1 rfl
  exact qnN qa r1 h hy2 hp2 hq2 rfl rfl rfl rfl rfl fun w4 S4 h=>X0 7 rfl (rK ⟨_,_,_,hF,rfl,h⟩ rfl)
 refine qq rfl ?_
 obtain rfl:=qb hF;replace hF:=hK1
 refine X0 5 rfl ?_
 obtain rfl:=qb hF
 exact rO 0 h rfl ⟨rfl,trivial⟩
def qlg (n:Nat) (a:qG):Option qG :=
 (qhV n a.Bn).bind fun r1 =>
 (qhV n a.Bc).bind fun r2 =>
 some (⟨a.Bf,a.Bk,a.To,a.Bp,r1,r2⟩:qG)
theorem qr0 {a:qG} (ha1:Ro w a cs1) {r:qG} (hF:qlg n a=some r):RetV Tryz.prog 210 [GoT.v qG cs1] w r:=by
 obtain ⟨p1,k1,p2,k2,rfl,s1,s2⟩:=qae ha1
 refine zV 25 Tryz.func210 rfl fun h=>zSR (qv h rfl rfl fun w1 bb1 h=>qp qa h rfl rfl rfl fun w2 bb2 h=>zNSR (qp qa h rfl rfl rfl fun w3 bb3 h=>X1 6 2 h rfl (zs 0 h rfl fun w4 h=>X1 6 2 h rfl (zs 0 h rfl fun w5 h=>X1 6 2 h rfl (zs 0 h rfl fun w6 h=>X1 6 2 h rfl (zs 0 h rfl fun w7 h=>X1 5 2 h rfl (zcL h hF (ql7 ⟨_,_,rfl,(h.oldS s1)⟩) rfl fun r1 w8 S1 p3 k3 h hF=>zp1 rfl (zs 1 h rfl fun w9 h=>X1 5 3 h rfl (zcL h hF (ql7 ⟨_,_,rfl,(h.oldS s2)⟩) rfl fun r2 w10 S2 p4 k4 h hF=>zp1 rfl (zs 2 h rfl fun w11 h=>X1 4 2 h rfl (zs 3 h rfl fun w12 h=>qcH ?_)))))))))))
 obtain rfl:=qb hF
 exact qT qa (ρ:=qG) [GoT.v qG [.int .i64 a.Bf,.int .i64 a.Bk,.int .i64 a.To,.int .i64 a.Bp,.slice p3 r1.length k3,.slice p4 r2.length k4]] h ⟨⟨_,_,_,rfl,rfl,h.box 3 rfl,rfl⟩,trivial⟩ (PV.done h (qZ (qv4 (⟨a.Bf,a.Bk,a.To,a.Bp,r1,r2⟩:qG) h (qx (S:=fun _=>False) rfl) (qx (S:=fun _=>False) rfl) (qx (S:=fun _=>False) rfl) (qx (S:=fun _=>False) rfl) (qag 1 h rfl) (qag 0 h rfl) (by rfl) (by rfl) (by rfl) (by rfl) (by rfl))))
def qgU (a:(List qG)):Nat→(List qG)→Int→Option ((List qG) × Int)
 | 0,_,_=>none
 | n+1,x2,i1 =>
  bif decide (i1<(a.length:Int)) then
   (idx a i1).bind fun y1 =>
   (qlg n y1).bind fun r1 =>
   (idx x2 i1).bind fun _ =>
   qgU a n (setS x2 i1 r1) (W64 (i1+1))
  else
   some (x2,i1)
def qlG (n:Nat) (a:(List qG)):Option (List qG) :=
 (mkS (a.length:Int) ((⟨0,0,0,0,[],[]⟩:qG):qG)).bind fun x1 =>
 (qgU a n x1 0).bind fun o=>match o with
 | (x2,_) =>
  some x2
theorem qrf {a:(List qG)} (ha1:Ro w a cs1) {r:(List qG)} (hF:qlG n a=some r):RetV Tryz.prog 185 [GoT.v (List qG) cs1] w r:=by
 obtain ⟨p1,k1,rfl,s1⟩:=ha1
 refine zV 23 Tryz.func185 rfl fun h=>X0 8 rfl ?_
 obtain ⟨x1,hx1,hF⟩:=qc hF
 obtain ⟨g1,g2,hx1⟩:=qU hx1
 refine qam qa qG h rfl rfl rfl rfl rfl rfl rfl rfl rfl g1 g2 hx1 rfl fun w1 S1 p2 h=>X0 7 rfl ?_
 obtain ⟨o1,hF,hK1⟩:=qc hF
 refine qm (rL (fun m e w'=>∃ (S2:Nat→Prop) (x2:(List qG)) (i1:Int),qgU a m x2 i1=some o1∧e=[(0,.slice p1 a.length k1),(3,.slice p2 x1.length x1.length),(4,.int .i64 i1)]∧SH w w' [Ch.own S2 (x2:List qG) [.slice p2 x1.length x1.length]]) n ⟨_,_,_,hF,rfl,h⟩ rfl ?_)
 rintro m1 e1 w2 ⟨S2,x2,i1,hF,rfl,h⟩
 rcases m1 with _|m1
 ·cases hF
 refine X0 8 rfl (qh rfl hF ?_ ?_)<;>intro hF
 ·refine X0 8 rfl ?_
  obtain ⟨y1,hy1,hF,he1,b1,_,q1,cs2,hp1,hq1,hr1,hc2⟩:=s1.ix hF
  obtain ⟨p3,k2,p4,k3,rfl,s2,s3⟩:=qae hr1
  refine zxe hp1 hq1 he1 rfl (zc 0 (hc2.below h.below) rfl (zcO h hF (qr0 (qfY y1 (h.oldS s2) (h.oldS s3))) rfl fun r1 w3 S3 cs3 h hF=>?_))
  obtain ⟨p5,k4,p6,k5,rfl,-,-⟩:=qae (h.own 0 rfl)
  obtain ⟨y2,hy2,hF⟩:=qc hF
  have he2:=qcG hy2
  replace h:=h.lrn0 1 rfl
  obtain ⟨b2,o_2,q2,cs4,hp2,hq2,-,hr3,hc3⟩:=(qlm (h.lrnO 1 rfl)).1.at hy2
  have hr4:=hr3
  obtain ⟨p7,k6,p8,k7,rfl,s6,s7⟩:=qae hr3
  replace h:=h.lrnAdd 1 rfl hr4
  refine zx hp2 hq2 ⟨he2.1,qC he2.2.1 (qlm (h.lrnO 1 rfl)).2⟩ rfl ?_
  replace h:=h.unlrn 1 rfl
  exact qnN qa r1 h hy2 hp2 hq2 rfl rfl rfl rfl rfl fun w4 S4 h=>X0 7 rfl (rK ⟨_,_,_,hF,rfl,h⟩ rfl)
 refine qq rfl ?_
 obtain rfl:=qb hF;replace hF:=hK1
 refine X0 5 rfl ?_
 obtain rfl:=qb hF
 exact rO 0 h rfl ⟨rfl,trivial⟩
def qjJ (n:Nat) (a:qw):Option qw :=
 (qlC n a.Bd).bind fun r1 =>
 (qlG n a.Au).bind fun r2 =>
 (qaQ n a.Bo).bind fun r3 =>
 some (⟨a.Bb,a.Bf,r1,r2,r3,a.Ca,a.Bu⟩:qw)
theorem qrj {a:qw} (ha1:Ro w a cs1) {r:qw} (hF:qjJ n a=some r):RetV Tryz.prog 153 [GoT.v qw cs1] w r:=by
 obtain ⟨p1,k1,p2,k2,p3,k3,rfl,s1,s2,s3⟩:=qad ha1
 refine zV 29 Tryz.func153 rfl fun h=>zSR (qv h rfl rfl fun w1 bb1 h=>qp qa h rfl rfl rfl fun w2 bb2 h=>zNSR (qp qa h rfl rfl rfl fun w3 bb3 h=>X1 6 2 h rfl (zs 0 h rfl fun w4 h=>X1 6 2 h rfl (zs 0 h rfl fun w5 h=>X1 5 2 h rfl (zcL h hF (qqZ ⟨_,_,rfl,(h.oldS s1)⟩) rfl fun r1 w6 S1 p4 k4 h hF=>zp1 rfl (zs 1 h rfl fun w7 h=>X1 5 3 h rfl (zcL h hF (qrf ⟨_,_,rfl,(h.oldS s2)⟩) rfl fun r2 w8 S2 p5 k5 h hF=>zp1 rfl (zs 2 h rfl fun w9 h=>X1 5 4 h rfl (zcL h hF (qaH ⟨_,_,rfl,(h.oldS s3)⟩) rfl fun r3 w10 S3 p6 k6 h hF=>zp1 rfl (zs 3 h rfl fun w11 h=>X1 6 5 h rfl (zs 3 h rfl fun w12 h=>X1 6 5 h rfl (zs 3 h rfl fun w13 h=>X1 4 3 h rfl (zs 4 h rfl fun w14 h=>qcH ?_)))))))))))))
 obtain rfl:=qb hF
 exact qT qa (ρ:=qw) [GoT.v qw [.string a.Bb,.int .i64 a.Bf,.slice p4 r1.length k4,.slice p5 r2.length k5,.slice p6 r3.length k6,.int .i64 a.Ca,.int .i64 a.Bu]] h ⟨⟨_,_,_,rfl,rfl,h.box 4 rfl,rfl⟩,trivial⟩ (PV.done h (qZ (quj (⟨a.Bb,a.Bf,r1,r2,r3,a.Ca,a.Bu⟩:qw) h (qx (S:=fun _=>False) rfl) (qx (S:=fun _=>False) rfl) (qag 2 h rfl) (qag 1 h rfl) (qag 0 h rfl) (qx (S:=fun _=>False) rfl) (qx (S:=fun _=>False) rfl) (by rfl) (by rfl) (by rfl) (by rfl) (by rfl) (by rfl))))
def qgp (a:(List qw)):Nat→(List qw)→Int→Option ((List qw) × Int)
 | 0,_,_=>none
 | n+1,x2,i1 =>
  bif decide (i1<(a.length:Int)) then
   (idx a i1).bind fun y1 =>
   (qjJ n y1).bind fun r1 =>
   (idx x2 i1).bind fun _ =>
   qgp a n (setS x2 i1 r1) (W64 (i1+1))
  else
   some (x2,i1)
def qkm (n:Nat) (a:(List qw)):Option (List qw) :=
 (mkS (a.length:Int) ((⟨ByteArray.empty,0,[],[],[],0,0⟩:qw):qw)).bind fun x1 =>
 (qgp a n x1 0).bind fun o=>match o with
 | (x2,_) =>
  some x2
theorem qqu {a:(List qw)} (ha1:Ro w a cs1) {r:(List qw)} (hF:qkm n a=some r):RetV Tryz.prog 99 [GoT.v (List qw) cs1] w r:=by
 obtain ⟨p1,k1,rfl,s1⟩:=ha1
 refine zV 23 Tryz.func99 rfl fun h=>X0 8 rfl ?_
 obtain ⟨x1,hx1,hF⟩:=qc hF
 obtain ⟨g1,g2,hx1⟩:=qU hx1
 refine qam qa qw h rfl rfl rfl rfl rfl rfl rfl rfl rfl g1 g2 hx1 rfl fun w1 S1 p2 h=>X0 7 rfl ?_
 obtain ⟨o1,hF,hK1⟩:=qc hF
 refine qm (rL (fun m e w'=>∃ (S2:Nat→Prop) (x2:(List qw)) (i1:Int),qgp a m x2 i1=some o1∧e=[(0,.slice p1 a.length k1),(3,.slice p2 x1.length x1.length),(4,.int .i64 i1)]∧SH w w' [Ch.own S2 (x2:List qw) [.slice p2 x1.length x1.length]]) n ⟨_,_,_,hF,rfl,h⟩ rfl ?_)
 rintro m1 e1 w2 ⟨S2,x2,i1,hF,rfl,h⟩
 rcases m1 with _|m1
 ·cases hF
 refine X0 8 rfl (qh rfl hF ?_ ?_)<;>intro hF
 ·refine X0 8 rfl ?_
  obtain ⟨y1,hy1,hF,he1,b1,_,q1,cs2,hp1,hq1,hr1,hc2⟩:=s1.ix hF
  obtain ⟨p3,k2,p4,k3,p5,k4,rfl,s2,s3,s4⟩:=qad hr1
  refine zxe hp1 hq1 he1 rfl (zc 0 (hc2.below h.below) rfl (zcO h hF (qrj (qkJ y1 (h.oldS s2) (h.oldS s3) (h.oldS s4))) rfl fun r1 w3 S3 cs3 h hF=>?_))
  obtain ⟨p6,k5,p7,k6,p8,k7,rfl,-,-,-⟩:=qad (h.own 0 rfl)
  obtain ⟨y2,hy2,hF⟩:=qc hF
  have he2:=qcG hy2
  replace h:=h.lrn0 1 rfl
  obtain ⟨b2,o_2,q2,cs4,hp2,hq2,-,hr3,hc3⟩:=(qlm (h.lrnO 1 rfl)).1.at hy2
  have hr4:=hr3
  obtain ⟨p9,k8,p10,k9,p11,k10,rfl,s8,s9,s10⟩:=qad hr3
  replace h:=h.lrnAdd 1 rfl hr4
  refine zx hp2 hq2 ⟨he2.1,qC he2.2.1 (qlm (h.lrnO 1 rfl)).2⟩ rfl ?_
  replace h:=h.unlrn 1 rfl
  exact qnN qa r1 h hy2 hp2 hq2 rfl rfl rfl rfl rfl fun w4 S4 h=>X0 7 rfl (rK ⟨_,_,_,hF,rfl,h⟩ rfl)
 refine qq rfl ?_
 obtain rfl:=qb hF;replace hF:=hK1
 refine X0 5 rfl ?_
 obtain rfl:=qb hF
 exact rO 0 h rfl ⟨rfl,trivial⟩
def qiC (n:Nat) (a:qn):Option qn :=
 (qkm n a.As).bind fun r1 =>
 some (⟨r1⟩:qn)
theorem qpc {a:qn} (ha1:Ro w a cs1) {r:qn} (hF:qiC n a=some r):RetV Tryz.prog 66 [GoT.v qn cs1] w r:=by
 obtain ⟨p1,k1,rfl,s1⟩:=qbz ha1
 refine zV 9 Tryz.func66 rfl fun h=>zSR (qv h rfl rfl fun w1 bb1 h=>qp qa h rfl rfl rfl fun w2 bb2 h=>zNSR (qp qa h rfl rfl rfl fun w3 bb3 h=>X1 5 2 h rfl (zcL h hF (qqu ⟨_,_,rfl,(h.oldS s1)⟩) rfl fun r1 w4 S1 p2 k2 h hF=>zp1 rfl (zs 1 h rfl fun w5 h=>X1 4 1 h rfl (zs 2 h rfl fun w6 h=>qcH ?_)))))
 obtain rfl:=qb hF
 exact qT qa (ρ:=qn) [GoT.v qn [.slice p2 r1.length k2]] h ⟨⟨_,_,_,rfl,rfl,h.box 2 rfl,rfl⟩,trivial⟩ (PV.done h (qZ (qtK (⟨r1⟩:qn) h (qag 0 h rfl) )))
def qgw (n:Nat) (a:qi):Option qi :=
 (qaQ n a.Ak).bind fun r1 =>
 some (⟨a.Bb,a.Bt,r1⟩:qi)
theorem qoq {a:qi} (ha1:Ro w a cs1) {r:qi} (hF:qgw n a=some r):RetV Tryz.prog 154 [GoT.v qi cs1] w r:=by
 obtain ⟨p1,k1,rfl,s1⟩:=qP ha1
 refine zV 15 Tryz.func154 rfl fun h=>zSR (qv h rfl rfl fun w1 bb1 h=>qp qa h rfl rfl rfl fun w2 bb2 h=>zNSR (qp qa h rfl rfl rfl fun w3 bb3 h=>X1 6 2 h rfl (zs 0 h rfl fun w4 h=>X1 6 2 h rfl (zs 0 h rfl fun w5 h=>X1 5 2 h rfl (zcL h hF (qaH ⟨_,_,rfl,(h.oldS s1)⟩) rfl fun r1 w6 S1 p2 k2 h hF=>zp1 rfl (zs 1 h rfl fun w7 h=>X1 4 1 h rfl (zs 2 h rfl fun w8 h=>qcH ?_)))))))
 obtain rfl:=qb hF
 exact qT qa (ρ:=qi) [GoT.v qi [.string a.Bb,.int .i64 a.Bt,.slice p2 r1.length k2]] h ⟨⟨_,_,_,rfl,rfl,h.box 2 rfl,rfl⟩,trivial⟩ (PV.done h (qZ (qpj (⟨a.Bb,a.Bt,r1⟩:qi) h (qx (S:=fun _=>False) rfl) (qx (S:=fun _=>False) rfl) (qag 0 h rfl) (by rfl) (by rfl))))
def qd2 (a:(List qi)):Nat→(List qi)→Int→Option ((List qi) × Int)
 | 0,_,_=>none
 | n+1,x2,i1 =>
  bif decide (i1<(a.length:Int)) then
   (idx a i1).bind fun y1 =>
   (qgw n y1).bind fun r1 =>
   (idx x2 i1).bind fun _ =>
   qd2 a n (setS x2 i1 r1) (W64 (i1+1))
  else
   some (x2,i1)
def qhA (n:Nat) (a:(List qi)):Option (List qi) :=
 (mkS (a.length:Int) ((⟨ByteArray.empty,0,[]⟩:qi):qi)).bind fun x1 =>
 (qd2 a n x1 0).bind fun o=>match o with
 | (x2,_) =>
  some x2
theorem qoh {a:(List qi)} (ha1:Ro w a cs1) {r:(List qi)} (hF:qhA n a=some r):RetV Tryz.prog 100 [GoT.v (List qi) cs1] w r:=by
 obtain ⟨p1,k1,rfl,s1⟩:=ha1
 refine zV 23 Tryz.func100 rfl fun h=>X0 8 rfl ?_
 obtain ⟨x1,hx1,hF⟩:=qc hF
 obtain ⟨g1,g2,hx1⟩:=qU hx1
 refine qam qa qi h rfl rfl rfl rfl rfl rfl rfl rfl rfl g1 g2 hx1 rfl fun w1 S1 p2 h=>X0 7 rfl ?_
 obtain ⟨o1,hF,hK1⟩:=qc hF
 refine qm (rL (fun m e w'=>∃ (S2:Nat→Prop) (x2:(List qi)) (i1:Int),qd2 a m x2 i1=some o1∧e=[(0,.slice p1 a.length k1),(3,.slice p2 x1.length x1.length),(4,.int .i64 i1)]∧SH w w' [Ch.own S2 (x2:List qi) [.slice p2 x1.length x1.length]]) n ⟨_,_,_,hF,rfl,h⟩ rfl ?_)
 rintro m1 e1 w2 ⟨S2,x2,i1,hF,rfl,h⟩
 rcases m1 with _|m1
 ·cases hF
 refine X0 8 rfl (qh rfl hF ?_ ?_)<;>intro hF
 ·refine X0 8 rfl ?_
  obtain ⟨y1,hy1,hF,he1,b1,_,q1,cs2,hp1,hq1,hr1,hc2⟩:=s1.ix hF
  obtain ⟨p3,k2,rfl,s2⟩:=qP hr1
  refine zxe hp1 hq1 he1 rfl (zc 0 (hc2.below h.below) rfl (zcO h hF (qoq (qgy y1 (h.oldS s2))) rfl fun r1 w3 S3 cs3 h hF=>?_))
  obtain ⟨p4,k3,rfl,-⟩:=qP (h.own 0 rfl)
  obtain ⟨y2,hy2,hF⟩:=qc hF
  have he2:=qcG hy2
  replace h:=h.lrn0 1 rfl
  obtain ⟨b2,o_2,q2,cs4,hp2,hq2,-,hr3,hc3⟩:=(qlm (h.lrnO 1 rfl)).1.at hy2
  have hr4:=hr3
  obtain ⟨p5,k4,rfl,s4⟩:=qP hr3
  replace h:=h.lrnAdd 1 rfl hr4
  refine zx hp2 hq2 ⟨he2.1,qC he2.2.1 (qlm (h.lrnO 1 rfl)).2⟩ rfl ?_
  replace h:=h.unlrn 1 rfl
  exact qnN qa r1 h hy2 hp2 hq2 rfl rfl rfl rfl rfl fun w4 S4 h=>X0 7 rfl (rK ⟨_,_,_,hF,rfl,h⟩ rfl)
 refine qq rfl ?_
 obtain rfl:=qb hF;replace hF:=hK1
 refine X0 5 rfl ?_
 obtain rfl:=qb hF
 exact rO 0 h rfl ⟨rfl,trivial⟩
def qfp (a:(List ByteArray)):Nat→(List ByteArray)→Int→Option ((List ByteArray) × Int)
 | 0,_,_=>none
 | n+1,x2,i1 =>
  bif decide (i1<(a.length:Int)) then
   (idx a i1).bind fun y1 =>
   (idx x2 i1).bind fun _ =>
   qfp a n (setS x2 i1 y1) (W64 (i1+1))
  else
   some (x2,i1)
def qi4 (n:Nat) (a:(List ByteArray)):Option (List ByteArray) :=
 (mkS (a.length:Int) (ByteArray.empty:ByteArray)).bind fun x1 =>
 (qfp a n x1 0).bind fun o=>match o with
 | (x2,_) =>
  some x2
theorem qpg {a:(List ByteArray)} (ha1:Ro w a cs1) {r:(List ByteArray)} (hF:qi4 n a=some r):RetV Tryz.prog 101 [GoT.v (List ByteArray) cs1] w r:=by
 obtain ⟨p1,k1,rfl,s1⟩:=ha1
 refine zV 22 Tryz.func101 rfl fun h=>X0 8 rfl ?_
 obtain ⟨x1,hx1,hF⟩:=qc hF
 obtain ⟨g1,g2,hx1⟩:=qU hx1
 refine qam qa ByteArray h rfl rfl rfl rfl rfl rfl rfl rfl rfl g1 g2 hx1 rfl fun w1 S1 p2 h=>X0 7 rfl ?_
 obtain ⟨o1,hF,hK1⟩:=qc hF
 refine qm (rL (fun m e w'=>∃ (x2:(List ByteArray)) (i1:Int),qfp a m x2 i1=some o1∧e=[(0,.slice p1 a.length k1),(3,.slice p2 x1.length x1.length),(4,.int .i64 i1)]∧SH w w' [Ch.own S1 (x2:List ByteArray) [.slice p2 x1.length x1.length]]) n ⟨_,_,hF,rfl,h⟩ rfl ?_)
 rintro m1 e1 w2 ⟨x2,i1,hF,rfl,h⟩
 rcases m1 with _|m1
 ·cases hF
 refine X0 8 rfl (qh rfl hF ?_ ?_)<;>intro hF
 ·refine X0 8 rfl ?_
  obtain ⟨y1,hy1,hF,he1,b1,_,q1,cs2,hp1,hq1,rfl,hc2⟩:=s1.ix hF
  refine zxe hp1 hq1 he1 rfl (zc 0 (hc2.below h.below) rfl ?_)
  obtain ⟨y2,hy2,hF,he2,b2,_,q2,cs3,hp2,hq2,rfl,hc3⟩:=(h.sl 0 rfl).1.ix hF
  exact zx hp2 hq2 ⟨he2.1,qC he2.2.1 (h.sl 0 rfl).2⟩ rfl (qaA qa 0 0 y1 h rfl hy2 hp2 hq2 rfl hc3 rfl rfl rfl rfl rfl rfl rfl fun w3 h=>X0 7 rfl (rK ⟨_,_,hF,rfl,h⟩ rfl))
 refine qq rfl ?_
 obtain rfl:=qb hF;replace hF:=hK1
 refine X0 5 rfl ?_
 obtain rfl:=qb hF
 exact rO 0 h rfl ⟨rfl,trivial⟩
def qj1 (_:Nat) (a:qK):Option qK :=
 some (⟨a.Bb,a.Bv,a.Bx⟩:qK)
theorem qq5 {a:qK} (ha1:Ro w a cs1) {r:qK} (hF:qj1 n a=some r):RetV Tryz.prog 155 [GoT.v qK cs1] w r:=by
 obtain rfl:=qaV ha1
 refine zV 14 Tryz.func155 rfl fun h=>zSR (qv h rfl rfl fun w1 bb1 h=>qp qa h rfl rfl rfl fun w2 bb2 h=>zNSR (qp qa h rfl rfl rfl fun w3 bb3 h=>X1 6 2 h rfl (zs 0 h rfl fun w4 h=>X1 6 2 h rfl (zs 0 h rfl fun w5 h=>X1 6 2 h rfl (zs 0 h rfl fun w6 h=>X1 4 0 h rfl (zs 1 h rfl fun w7 h=>qcH ?_))))))
 obtain rfl:=qb hF
 exact qT qa (ρ:=qK) [GoT.v qK (qqY a)] h ⟨⟨_,_,_,rfl,rfl,h.box 1 rfl,rfl⟩,trivial⟩ (PV.done h (qZ (qx (S:=fun _=>False) (qes (⟨a.Bb,a.Bv,a.Bx⟩:qK)))))
def qgu (a:(List qK)):Nat→(List qK)→Int→Option ((List qK) × Int)
 | 0,_,_=>none
 | n+1,x2,i1 =>
  bif decide (i1<(a.length:Int)) then
   (idx a i1).bind fun y1 =>
   (qj1 n y1).bind fun r1 =>
   (idx x2 i1).bind fun _ =>
   qgu a n (setS x2 i1 r1) (W64 (i1+1))
  else
   some (x2,i1)
def qkB (n:Nat) (a:(List qK)):Option (List qK) :=
 (mkS (a.length:Int) ((⟨ByteArray.empty,0,0⟩:qK):qK)).bind fun x1 =>
 (qgu a n x1 0).bind fun o=>match o with
 | (x2,_) =>
  some x2
theorem qqB {a:(List qK)} (ha1:Ro w a cs1) {r:(List qK)} (hF:qkB n a=some r):RetV Tryz.prog 102 [GoT.v (List qK) cs1] w r:=by
 obtain ⟨p1,k1,rfl,s1⟩:=ha1
 refine zV 23 Tryz.func102 rfl fun h=>X0 8 rfl ?_
 obtain ⟨x1,hx1,hF⟩:=qc hF
 obtain ⟨g1,g2,hx1⟩:=qU hx1
 refine qam qa qK h rfl rfl rfl rfl rfl rfl rfl rfl rfl g1 g2 hx1 rfl fun w1 S1 p2 h=>X0 7 rfl ?_
 obtain ⟨o1,hF,hK1⟩:=qc hF
 refine qm (rL (fun m e w'=>∃ (x2:(List qK)) (i1:Int),qgu a m x2 i1=some o1∧e=[(0,.slice p1 a.length k1),(3,.slice p2 x1.length x1.length),(4,.int .i64 i1)]∧SH w w' [Ch.own S1 (x2:List qK) [.slice p2 x1.length x1.length]]) n ⟨_,_,hF,rfl,h⟩ rfl ?_)
 rintro m1 e1 w2 ⟨x2,i1,hF,rfl,h⟩
 rcases m1 with _|m1
 ·cases hF
 refine X0 8 rfl (qh rfl hF ?_ ?_)<;>intro hF
 ·refine X0 8 rfl ?_
  obtain ⟨y1,hy1,hF,he1,b1,_,q1,cs2,hp1,hq1,hr1,hc2⟩:=s1.ix hF
  obtain rfl:=qaV hr1
  refine zxe hp1 hq1 he1 rfl (zc 0 (hc2.below h.below) rfl (zcO h hF (qq5 (qes y1)) rfl fun r1 w3 S2 cs3 h hF=>?_))
  obtain rfl:=qaV (h.own 0 rfl)
  obtain ⟨y2,hy2,hF,he2,b2,_,q2,cs4,hp2,hq2,hr3,hc3⟩:=(h.sl 1 rfl).1.ix hF
  obtain rfl:=qaV hr3
  refine zx hp2 hq2 ⟨he2.1,qC he2.2.1 (h.sl 1 rfl).2⟩ rfl (qaA qa 1 0 r1 h rfl hy2 hp2 hq2 (qes y2) hc3 rfl rfl rfl (qes r1) rfl rfl rfl fun w4 h=>X0 7 rfl ?_)
  replace h:=h.pick [1] rfl
  exact rK ⟨_,_,hF,rfl,h⟩ rfl
 refine qq rfl ?_
 obtain rfl:=qb hF;replace hF:=hK1
 refine X0 5 rfl ?_
 obtain rfl:=qb hF
 exact rO 0 h rfl ⟨rfl,trivial⟩
def qjn (n:Nat) (a:qd):Option qd :=
 (qhA n a.Aa).bind fun r1 =>
 (qi4 n a.Ak).bind fun r2 =>
 (qkB n a.Aj).bind fun r3 =>
 some (⟨r1,r2,r3⟩:qd)
theorem qp5 {a:qd} (ha1:Ro w a cs1) {r:qd} (hF:qjn n a=some r):RetV Tryz.prog 67 [GoT.v qd cs1] w r:=by
 obtain ⟨p1,k1,p2,k2,p3,k3,rfl,s1,s2,s3⟩:=qay ha1
 refine zV 17 Tryz.func67 rfl fun h=>zSR (qv h rfl rfl fun w1 bb1 h=>qp qa h rfl rfl rfl fun w2 bb2 h=>zNSR (qp qa h rfl rfl rfl fun w3 bb3 h=>X1 5 2 h rfl (zcL h hF (qoh ⟨_,_,rfl,(h.oldS s1)⟩) rfl fun r1 w4 S1 p4 k4 h hF=>zp1 rfl (zs 1 h rfl fun w5 h=>X1 5 3 h rfl (zcL h hF (qpg ⟨_,_,rfl,(h.oldS s2)⟩) rfl fun r2 w6 S2 p5 k5 h hF=>zp1 rfl (zs 2 h rfl fun w7 h=>X1 5 4 h rfl (zcL h hF (qqB ⟨_,_,rfl,(h.oldS s3)⟩) rfl fun r3 w8 S3 p6 k6 h hF=>zp1 rfl (zs 3 h rfl fun w9 h=>X1 4 3 h rfl (zs 4 h rfl fun w10 h=>qcH ?_)))))))))
 obtain rfl:=qb hF
 exact qT qa (ρ:=qd) [GoT.v qd [.slice p4 r1.length k4,.slice p5 r2.length k5,.slice p6 r3.length k6]] h ⟨⟨_,_,_,rfl,rfl,h.box 4 rfl,rfl⟩,trivial⟩ (PV.done h (qZ (qu0 (⟨r1,r2,r3⟩:qd) h (qag 2 h rfl) (qag 1 h rfl) (qag 0 h rfl) (by rfl) (by rfl))))
def qjU (n:Nat) (a:qD):Option qD :=
 (qaQ n a.Am).bind fun r1 =>
 (qaQ n a.Bw).bind fun r2 =>
 (qaQ n a.Bs).bind fun r3 =>
 (qaQ n a.Bl).bind fun r4 =>
 some (⟨r1,r2,r3,r4⟩:qD)
theorem qrE {a:qD} (ha1:Ro w a cs1) {r:qD} (hF:qjU n a=some r):RetV Tryz.prog 103 [GoT.v qD cs1] w r:=by
 obtain ⟨p1,k1,p2,k2,p3,k3,p4,k4,rfl,s1,s2,s3,s4⟩:=qaN ha1
 refine zV 21 Tryz.func103 rfl fun h=>zSR (qv h rfl rfl fun w1 bb1 h=>qp qa h rfl rfl rfl fun w2 bb2 h=>zNSR (qp qa h rfl rfl rfl fun w3 bb3 h=>X1 5 2 h rfl (zcL h hF (qaH ⟨_,_,rfl,(h.oldS s1)⟩) rfl fun r1 w4 S1 p5 k5 h hF=>zp1 rfl (zs 1 h rfl fun w5 h=>X1 5 3 h rfl (zcL h hF (qaH ⟨_,_,rfl,(h.oldS s2)⟩) rfl fun r2 w6 S2 p6 k6 h hF=>zp1 rfl (zs 2 h rfl fun w7 h=>X1 5 4 h rfl (zcL h hF (qaH ⟨_,_,rfl,(h.oldS s3)⟩) rfl fun r3 w8 S3 p7 k7 h hF=>zp1 rfl (zs 3 h rfl fun w9 h=>X1 5 5 h rfl (zcL h hF (qaH ⟨_,_,rfl,(h.oldS s4)⟩) rfl fun r4 w10 S4 p8 k8 h hF=>zp1 rfl (zs 4 h rfl fun w11 h=>X1 4 4 h rfl (zs 5 h rfl fun w12 h=>qcH ?_)))))))))))
 obtain rfl:=qb hF
 exact qT qa (ρ:=qD) [GoT.v qD [.slice p5 r1.length k5,.slice p6 r2.length k6,.slice p7 r3.length k7,.slice p8 r4.length k8]] h ⟨⟨_,_,_,rfl,rfl,h.box 5 rfl,rfl⟩,trivial⟩ (PV.done h (qZ (qtM (⟨r1,r2,r3,r4⟩:qD) h (qag 3 h rfl) (qag 2 h rfl) (qag 1 h rfl) (qag 0 h rfl) (by rfl) (by rfl) (by rfl))))
def qgq (a:(List qD)):Nat→(List qD)→Int→Option ((List qD) × Int)
 | 0,_,_=>none
 | n+1,x2,i1 =>
  bif decide (i1<(a.length:Int)) then
   (idx a i1).bind fun y1 =>
   (qjU n y1).bind fun r1 =>
   (idx x2 i1).bind fun _ =>
   qgq a n (setS x2 i1 r1) (W64 (i1+1))
  else
   some (x2,i1)
def qkh (n:Nat) (a:(List qD)):Option (List qD) :=
 (mkS (a.length:Int) ((⟨[],[],[],[]⟩:qD):qD)).bind fun x1 =>
 (qgq a n x1 0).bind fun o=>match o with
 | (x2,_) =>
  some x2
theorem qqp {a:(List qD)} (ha1:Ro w a cs1) {r:(List qD)} (hF:qkh n a=some r):RetV Tryz.prog 68 [GoT.v (List qD) cs1] w r:=by
 obtain ⟨p1,k1,rfl,s1⟩:=ha1
 refine zV 23 Tryz.func68 rfl fun h=>X0 8 rfl ?_
 obtain ⟨x1,hx1,hF⟩:=qc hF
 obtain ⟨g1,g2,hx1⟩:=qU hx1
 refine qam qa qD h rfl rfl rfl rfl rfl rfl rfl rfl rfl g1 g2 hx1 rfl fun w1 S1 p2 h=>X0 7 rfl ?_
 obtain ⟨o1,hF,hK1⟩:=qc hF
 refine qm (rL (fun m e w'=>∃ (S2:Nat→Prop) (x2:(List qD)) (i1:Int),qgq a m x2 i1=some o1∧e=[(0,.slice p1 a.length k1),(3,.slice p2 x1.length x1.length),(4,.int .i64 i1)]∧SH w w' [Ch.own S2 (x2:List qD) [.slice p2 x1.length x1.length]]) n ⟨_,_,_,hF,rfl,h⟩ rfl ?_)
 rintro m1 e1 w2 ⟨S2,x2,i1,hF,rfl,h⟩
 rcases m1 with _|m1
 ·cases hF
 refine X0 8 rfl (qh rfl hF ?_ ?_)<;>intro hF
 ·refine X0 8 rfl ?_
  obtain ⟨y1,hy1,hF,he1,b1,_,q1,cs2,hp1,hq1,hr1,hc2⟩:=s1.ix hF
  obtain ⟨p3,k2,p4,k3,p5,k4,p6,k5,rfl,s2,s3,s4,s5⟩:=qaN hr1
  refine zxe hp1 hq1 he1 rfl (zc 0 (hc2.below h.below) rfl (zcO h hF (qrE (qkC y1 (h.oldS s2) (h.oldS s3) (h.oldS s4) (h.oldS s5))) rfl fun r1 w3 S3 cs3 h hF=>?_))
  obtain ⟨p7,k6,p8,k7,p9,k8,p10,k9,rfl,-,-,-,-⟩:=qaN (h.own 0 rfl)
  obtain ⟨y2,hy2,hF⟩:=qc hF
  have he2:=qcG hy2
  replace h:=h.lrn0 1 rfl
  obtain ⟨b2,o_2,q2,cs4,hp2,hq2,-,hr3,hc3⟩:=(qlm (h.lrnO 1 rfl)).1.at hy2
  have hr4:=hr3
  obtain ⟨p11,k10,p12,k11,p13,k12,p14,k13,rfl,s10,s11,s12,s13⟩:=qaN hr3
  replace h:=h.lrnAdd 1 rfl hr4
  refine zx hp2 hq2 ⟨he2.1,qC he2.2.1 (qlm (h.lrnO 1 rfl)).2⟩ rfl ?_
  replace h:=h.unlrn 1 rfl
  exact qnN qa r1 h hy2 hp2 hq2 rfl rfl rfl rfl rfl fun w4 S4 h=>X0 7 rfl (rK ⟨_,_,_,hF,rfl,h⟩ rfl)
 refine qq rfl ?_
 obtain rfl:=qb hF;replace hF:=hK1
 refine X0 5 rfl ?_
 obtain rfl:=qb hF
 exact rO 0 h rfl ⟨rfl,trivial⟩
def qkn (n:Nat) (a:qg):Option qg :=
 (qiC n (⟨a.Av.As⟩:qn)).bind fun r1 =>
 (qjn n (⟨a.Ab.Aa,a.Ab.Ak,a.Ab.Aj⟩:qd)).bind fun r2 =>
 (qkh n a.Ac).bind fun r3 =>
 some (⟨r1,r2,r3⟩:qg)
theorem qqH {a:qg} (ha1:Ro w a cs1) {r:qg} (hF:qkn n a=some r):RetV Tryz.prog 37 [GoT.v qg cs1] w r:=by
 obtain ⟨p1,k1,p2,k2,p3,k3,p4,k4,p5,k5,rfl,s1,s2,s3,s4,s5⟩:=qac ha1
 refine zV 17 Tryz.func37 rfl fun h=>zSR (qv h rfl rfl fun w1 bb1 h=>qp qa h rfl rfl rfl fun w2 bb2 h=>zNSR (qp qa h rfl rfl rfl fun w3 bb3 h=>X1 5 2 h rfl (zcO h hF (qpc (qd9 _ (h.oldS s1))) rfl fun r1 w4 S1 cs2 h hF=>?_)))
 obtain ⟨p6,k6,rfl,-⟩:=qbz (h.own 0 rfl)
 refine zp1 rfl (zs 1 h rfl fun w5 h=>X1 5 3 h rfl (zcO h hF (qp5 (qar _ (h.oldS s2) (h.oldS s3) (h.oldS s4))) rfl fun r2 w6 S2 cs3 h hF=>?_))
 obtain ⟨p7,k7,p8,k8,p9,k9,rfl,-,-,-⟩:=qay (h.own 0 rfl)
 refine zp1 rfl (zs 2 h rfl fun w7 h=>X1 5 4 h rfl (zcL h hF (qqp ⟨_,_,rfl,(h.oldS s5)⟩) rfl fun r3 w8 S3 p10 k10 h hF=>zp1 rfl (zs 3 h rfl fun w9 h=>X1 4 3 h rfl (zs 4 h rfl fun w10 h=>qcH ?_))))
 obtain rfl:=qb hF
 exact qT qa (ρ:=qg) [GoT.v qg [.slice p6 r1.As.length k6,.slice p7 r2.Aa.length k7,.slice p8 r2.Ak.length k8,.slice p9 r2.Aj.length k9,.slice p10 r3.length k10]] h ⟨⟨_,_,_,rfl,rfl,h.box 4 rfl,rfl⟩,trivial⟩ (PV.done h (qZ (qwr (⟨r1,r2,r3⟩:qg) h (qag 2 h rfl) (qag 1 h rfl) (qag 0 h rfl) (by rfl) (by rfl))))
def qfD (a:(List Int)) (b:(List Int)):Nat→Int→Option (Flow Bool Int)
 | 0,_=>none
 | n+1,i1 =>
  bif decide (i1<(a.length:Int)) then
   (idx a i1).bind fun y1 =>
   (idx b i1).bind fun y2 =>
   bif (y1 != y2) then some (.ret false) else
   qfD a b n (W64 (i1+1))
  else
   some (.nxt i1)
def qaO (n:Nat) (a:(List Int)) (b:(List Int)):Option Bool :=
 bif ((a.length:Int) != (b.length:Int)) then some false else
 (qfD a b n 0).bind fun o=>match o with
 | .ret r=>some r
 | .nxt _ =>
  some true
theorem qaF {a:(List Int)} {b:(List Int)} (ha1:Ro w a cs1) (ha2:Ro w b cs2) {r:Bool} (hF:qaO n a b=some r):RetV Tryz.prog 15 [GoT.v (List Int) cs1,GoT.v (List Int) cs2] w r:=by
 obtain ⟨p1,k1,rfl,s1⟩:=ha1
 obtain ⟨p2,k2,rfl,s2⟩:=ha2
 refine zV 26 Tryz.func15 rfl fun h=>X0 13 rfl (qh rfl hF ?_ ?_)<;>intro hF
 ·exact X0 4 rfl (rb h hF rfl)
 refine X0 6 rfl ?_
 obtain ⟨o1,hF,hK1⟩:=qc hF
 refine qm (rL (fun m e w'=>∃ (i1:Int),qfD a b m i1=some o1∧e=[(0,.slice p1 a.length k1),(1,.slice p2 b.length k2),(5,.int .i64 i1)]∧SH w w' []) n ⟨_,hF,rfl,h⟩ rfl ?_)
 rintro m1 e1 w1 ⟨i1,hF,rfl,h⟩
 rcases m1 with _|m1
 ·cases hF
 refine X0 8 rfl (qh rfl hF ?_ ?_)<;>intro hF
 ·refine X0 4 rfl (rD (zd2 rfl ?_))
  obtain ⟨y1,hy1,hF,he1,b1,_,q1,cs3,hp1,hq1,rfl,hc3⟩:=s1.ix hF
  refine zdxe hp1 hq1 he1 rfl (zdc 0 (hc3.below h.below) rfl (zd2 rfl ?_))
  obtain ⟨y2,hy2,hF,he2,b2,_,q2,cs4,hp2,hq2,rfl,hc4⟩:=s2.ix hF
  refine zdxe hp2 hq2 he2 rfl (zdc 0 (hc4.below h.below) rfl (zd1 rfl (dN h fun w2 h=>qh rfl hF ?_ ?_)))<;>intro hF
  ·refine X0 4 rfl ?_
   obtain rfl:=qb hF;replace hF:=hK1
   exact rb h hF rfl
  exact X0 7 rfl (rK ⟨_,hF,rfl,h⟩ rfl)
 refine qq rfl ?_
 obtain rfl:=qb hF;replace hF:=hK1
 exact X0 4 rfl (rb h hF rfl)
end Go.Fw


namespace Go.Fw
open Go Go.Proofs
open Go.RowKit (Below)
set_option maxRecDepth 100000
set_option maxHeartbeats 1600000
variable {n:Nat} {w:World} {cs1 cs2 cs3 cs4 cs5 cs6 cs7 cs8 cs9:List Value}
def qk3 (_:Nat) (a:qaj) (b:qaj):Option Bool :=
 bif (a.Bb.toList != b.Bb.toList) then some false else
 bif (a.Bv != b.Bv) then some false else
 bif (a.Bs != b.Bs) then some false else
 bif (!(a.Br==b.Br)) then some false else
 some true
theorem qr1 {a:qaj} {b:qaj} (ha1:Ro w a cs1) (ha2:Ro w b cs2) {r:Bool} (hF:qk3 n a b=some r):RetV Tryz.prog 232 [GoT.v qaj cs1,GoT.v qaj cs2] w r:=by
 obtain rfl:=qaZ ha1
 obtain rfl:=qaZ ha2
 refine zV 25 Tryz.func232 rfl fun h=>zSR (qv h rfl rfl fun w1 bb1 h=>qv h rfl rfl fun w2 bb2 h=>X2 11 1 0 h rfl (qh rfl hF ?_ ?_))<;>intro hF
 ·exact X0 4 rfl (rb h hF rfl)
 refine X2 10 1 0 h rfl (qh rfl hF ?_ ?_)<;>intro hF
 ·exact X0 4 rfl (rb h hF rfl)
 refine X2 10 1 0 h rfl (qh rfl hF ?_ ?_)<;>intro hF
 ·exact X0 4 rfl (rb h hF rfl)
 refine X2 10 1 0 h rfl (qh rfl hF ?_ ?_)<;>intro hF
 ·exact X0 4 rfl (rb h hF rfl)
 exact X0 5 rfl (rb h hF rfl)
def qg5 (a:(List qaj)) (b:(List qaj)):Nat→Int→Option (Flow Bool Int)
 | 0,_=>none
 | n+1,i1 =>
  bif decide (i1<(a.length:Int)) then
   (idx a i1).bind fun y1 =>
   (idx b i1).bind fun y2 =>
   (qk3 n y1 y2).bind fun r1 =>
   bif (!r1) then some (.ret false) else
   qg5 a b n (W64 (i1+1))
  else
   some (.nxt i1)
def qlF (n:Nat) (a:(List qaj)) (b:(List qaj)):Option Bool :=
 bif ((a.length:Int) != (b.length:Int)) then some false else
 (qg5 a b n 0).bind fun o=>match o with
 | .ret r=>some r
 | .nxt _ =>
  some true
theorem qrF {a:(List qaj)} {b:(List qaj)} (ha1:Ro w a cs1) (ha2:Ro w b cs2) {r:Bool} (hF:qlF n a b=some r):RetV Tryz.prog 198 [GoT.v (List qaj) cs1,GoT.v (List qaj) cs2] w r:=by
 obtain ⟨p1,k1,rfl,s1⟩:=ha1
 obtain ⟨p2,k2,rfl,s2⟩:=ha2
 refine zV 27 Tryz.func198 rfl fun h=>X0 13 rfl (qh rfl hF ?_ ?_)<;>intro hF
 ·exact X0 4 rfl (rb h hF rfl)
 refine X0 6 rfl ?_
 obtain ⟨o1,hF,hK1⟩:=qc hF
 refine qm (rL (fun m e w'=>∃ (i1:Int),qg5 a b m i1=some o1∧e=[(0,.slice p1 a.length k1),(1,.slice p2 b.length k2),(5,.int .i64 i1)]∧SH w w' []) n ⟨_,hF,rfl,h⟩ rfl ?_)
 rintro m1 e1 w1 ⟨i1,hF,rfl,h⟩
 rcases m1 with _|m1
 ·cases hF
 refine X0 8 rfl (qh rfl hF ?_ ?_)<;>intro hF
 ·refine X0 4 rfl (rD (zd2 rfl ?_))
  obtain ⟨y1,hy1,hF,he1,b1,_,q1,cs3,hp1,hq1,hr1,hc3⟩:=s1.ix hF
  obtain rfl:=qaZ hr1
  refine zdxe hp1 hq1 he1 rfl (zdc 0 (hc3.below h.below) rfl (zd2 rfl ?_))
  obtain ⟨y2,hy2,hF,he2,b2,_,q2,cs4,hp2,hq2,hr2,hc4⟩:=s2.ix hF
  obtain rfl:=qaZ hr2
  refine zdxe hp2 hq2 he2 rfl (zdc 0 (hc4.below h.below) rfl ?_)
  obtain ⟨r1,hr3,hF⟩:=qc hF
  refine qa0 r1 (vsB _) (cB 232 rfl) (fun _ hb=>qr1 (qd1 y1) (qd1 y2) hr3) rfl rfl rfl rfl (zd1 rfl (dN h fun w2 h=>qh rfl hF ?_ ?_))<;>intro hF
  ·refine X0 4 rfl ?_
   obtain rfl:=qb hF;replace hF:=hK1
   exact rb h hF rfl
  exact X0 7 rfl (rK ⟨_,hF,rfl,h⟩ rfl)
 refine qq rfl ?_
 obtain rfl:=qb hF;replace hF:=hK1
 exact X0 4 rfl (rb h hF rfl)
def qiv (n:Nat) (a:qr) (b:qr):Option Bool :=
 (qaO n a.Bm b.Bm).bind fun r1 =>
 bif (!r1) then some false else
 (qaO n a.Bj b.Bj).bind fun r2 =>
 bif (!r2) then some false else
 (qaO n a.Bh b.Bh).bind fun r3 =>
 bif (!r3) then some false else
 some true
theorem qqk {a:qr} {b:qr} (ha1:Ro w a cs1) (ha2:Ro w b cs2) {r:Bool} (hF:qiv n a b=some r):RetV Tryz.prog 278 [GoT.v qr cs1,GoT.v qr cs2] w r:=by
 obtain ⟨p1,k1,p2,k2,p3,k3,rfl,s1,s2,s3⟩:=qaE ha1
 obtain ⟨p4,k4,p5,k5,p6,k6,rfl,s4,s5,s6⟩:=qaE ha2
 refine zV 23 Tryz.func278 rfl fun h=>zSR (qv h rfl rfl fun w1 bb1 h=>qv h rfl rfl fun w2 bb2 h=>X2 9 1 0 h rfl (zcB h hF (qaF ⟨_,_,rfl,(h.oldS s1)⟩ ⟨_,_,rfl,(h.oldS s4)⟩) rfl fun r1 w3 h hF=>X0 2 rfl (qh rfl hF ?_ ?_)))<;>intro hF
 ·exact X0 4 rfl (rb h hF rfl)
 refine X2 8 1 0 h rfl (zcB h hF (qaF ⟨_,_,rfl,(h.oldS s2)⟩ ⟨_,_,rfl,(h.oldS s5)⟩) rfl fun r2 w4 h hF=>X0 2 rfl (qh rfl hF ?_ ?_))<;>intro hF
 ·exact X0 4 rfl (rb h hF rfl)
 refine X2 8 1 0 h rfl (zcB h hF (qaF ⟨_,_,rfl,(h.oldS s3)⟩ ⟨_,_,rfl,(h.oldS s6)⟩) rfl fun r3 w5 h hF=>X0 2 rfl (qh rfl hF ?_ ?_))<;>intro hF
 ·exact X0 4 rfl (rb h hF rfl)
 exact X0 5 rfl (rb h hF rfl)
def qfV (a:(List qr)) (b:(List qr)):Nat→Int→Option (Flow Bool Int)
 | 0,_=>none
 | n+1,i1 =>
  bif decide (i1<(a.length:Int)) then
   (idx a i1).bind fun y1 =>
   (idx b i1).bind fun y2 =>
   (qiv n y1 y2).bind fun r1 =>
   bif (!r1) then some (.ret false) else
   qfV a b n (W64 (i1+1))
  else
   some (.nxt i1)
def qhQ (n:Nat) (a:(List qr)) (b:(List qr)):Option Bool :=
 bif ((a.length:Int) != (b.length:Int)) then some false else
 (qfV a b n 0).bind fun o=>match o with
 | .ret r=>some r
 | .nxt _ =>
  some true
theorem ql9 {a:(List qr)} {b:(List qr)} (ha1:Ro w a cs1) (ha2:Ro w b cs2) {r:Bool} (hF:qhQ n a b=some r):RetV Tryz.prog 257 [GoT.v (List qr) cs1,GoT.v (List qr) cs2] w r:=by
 obtain ⟨p1,k1,rfl,s1⟩:=ha1
 obtain ⟨p2,k2,rfl,s2⟩:=ha2
 refine zV 27 Tryz.func257 rfl fun h=>X0 13 rfl (qh rfl hF ?_ ?_)<;>intro hF
 ·exact X0 4 rfl (rb h hF rfl)
 refine X0 6 rfl ?_
 obtain ⟨o1,hF,hK1⟩:=qc hF
 refine qm (rL (fun m e w'=>∃ (i1:Int),qfV a b m i1=some o1∧e=[(0,.slice p1 a.length k1),(1,.slice p2 b.length k2),(5,.int .i64 i1)]∧SH w w' []) n ⟨_,hF,rfl,h⟩ rfl ?_)
 rintro m1 e1 w1 ⟨i1,hF,rfl,h⟩
 rcases m1 with _|m1
 ·cases hF
 refine X0 8 rfl (qh rfl hF ?_ ?_)<;>intro hF
 ·refine X0 4 rfl (rD (zd2 rfl ?_))
  obtain ⟨y1,hy1,hF,he1,b1,_,q1,cs3,hp1,hq1,hr1,hc3⟩:=s1.ix hF
  obtain ⟨p3,k3,p4,k4,p5,k5,rfl,s3,s4,s5⟩:=qaE hr1
  refine zdxe hp1 hq1 he1 rfl (zdc 0 (hc3.below h.below) rfl (zd2 rfl ?_))
  obtain ⟨y2,hy2,hF,he2,b2,_,q2,cs4,hp2,hq2,hr2,hc4⟩:=s2.ix hF
  obtain ⟨p6,k6,p7,k7,p8,k8,rfl,s6,s7,s8⟩:=qaE hr2
  refine zdxe hp2 hq2 he2 rfl (zdc 0 (hc4.below h.below) rfl ?_)
  obtain ⟨r1,hr3,hF⟩:=qc hF
  refine qa0 r1 (vsB _) (cB 278 rfl) (fun _ hb=>qqk (qfs y1 ((h.ext hb).oldS s3) ((h.ext hb).oldS s4) ((h.ext hb).oldS s5)) (qfs y2 ((h.ext hb).oldS s6) ((h.ext hb).oldS s7) ((h.ext hb).oldS s8)) hr3) rfl rfl rfl rfl (zd1 rfl (dN h fun w2 h=>qh rfl hF ?_ ?_))<;>intro hF
  ·refine X0 4 rfl ?_
   obtain rfl:=qb hF;replace hF:=hK1
   exact rb h hF rfl
  exact X0 7 rfl (rK ⟨_,hF,rfl,h⟩ rfl)
 refine qq rfl ?_
 obtain rfl:=qb hF;replace hF:=hK1
 exact X0 4 rfl (rb h hF rfl)
def qk1 (n:Nat) (a:qG) (b:qG):Option Bool :=
 bif (a.Bf != b.Bf) then some false else
 bif (a.Bk != b.Bk) then some false else
 bif (a.To != b.To) then some false else
 bif (a.Bp != b.Bp) then some false else
 (qhQ n a.Bn b.Bn).bind fun r1 =>
 bif (!r1) then some false else
 (qhQ n a.Bc b.Bc).bind fun r2 =>
 bif (!r2) then some false else
 some true
theorem qr8 {a:qG} {b:qG} (ha1:Ro w a cs1) (ha2:Ro w b cs2) {r:Bool} (hF:qk1 n a b=some r):RetV Tryz.prog 233 [GoT.v qG cs1,GoT.v qG cs2] w r:=by
 obtain ⟨p1,k1,p2,k2,rfl,s1,s2⟩:=qae ha1
 obtain ⟨p3,k3,p4,k4,rfl,s3,s4⟩:=qae ha2
 refine zV 37 Tryz.func233 rfl fun h=>zSR (qv h rfl rfl fun w1 bb1 h=>qv h rfl rfl fun w2 bb2 h=>X2 11 1 0 h rfl (qh rfl hF ?_ ?_))<;>intro hF
 ·exact X0 4 rfl (rb h hF rfl)
 refine X2 10 1 0 h rfl (qh rfl hF ?_ ?_)<;>intro hF
 ·exact X0 4 rfl (rb h hF rfl)
 refine X2 10 1 0 h rfl (qh rfl hF ?_ ?_)<;>intro hF
 ·exact X0 4 rfl (rb h hF rfl)
 refine X2 10 1 0 h rfl (qh rfl hF ?_ ?_)<;>intro hF
 ·exact X0 4 rfl (rb h hF rfl)
 refine X2 8 1 0 h rfl (zcB h hF (ql9 ⟨_,_,rfl,(h.oldS s1)⟩ ⟨_,_,rfl,(h.oldS s3)⟩) rfl fun r1 w3 h hF=>X0 2 rfl (qh rfl hF ?_ ?_))<;>intro hF
 ·exact X0 4 rfl (rb h hF rfl)
 refine X2 8 1 0 h rfl (zcB h hF (ql9 ⟨_,_,rfl,(h.oldS s2)⟩ ⟨_,_,rfl,(h.oldS s4)⟩) rfl fun r2 w4 h hF=>X0 2 rfl (qh rfl hF ?_ ?_))<;>intro hF
 ·exact X0 4 rfl (rb h hF rfl)
 exact X0 5 rfl (rb h hF rfl)
def qgZ (a:(List qG)) (b:(List qG)):Nat→Int→Option (Flow Bool Int)
 | 0,_=>none
 | n+1,i1 =>
  bif decide (i1<(a.length:Int)) then
   (idx a i1).bind fun y1 =>
   (idx b i1).bind fun y2 =>
   (qk1 n y1 y2).bind fun r1 =>
   bif (!r1) then some (.ret false) else
   qgZ a b n (W64 (i1+1))
  else
   some (.nxt i1)
def qlD (n:Nat) (a:(List qG)) (b:(List qG)):Option Bool :=
 bif ((a.length:Int) != (b.length:Int)) then some false else
 (qgZ a b n 0).bind fun o=>match o with
 | .ret r=>some r
 | .nxt _ =>
  some true
theorem qrn {a:(List qG)} {b:(List qG)} (ha1:Ro w a cs1) (ha2:Ro w b cs2) {r:Bool} (hF:qlD n a b=some r):RetV Tryz.prog 199 [GoT.v (List qG) cs1,GoT.v (List qG) cs2] w r:=by
 obtain ⟨p1,k1,rfl,s1⟩:=ha1
 obtain ⟨p2,k2,rfl,s2⟩:=ha2
 refine zV 27 Tryz.func199 rfl fun h=>X0 13 rfl (qh rfl hF ?_ ?_)<;>intro hF
 ·exact X0 4 rfl (rb h hF rfl)
 refine X0 6 rfl ?_
 obtain ⟨o1,hF,hK1⟩:=qc hF
 refine qm (rL (fun m e w'=>∃ (i1:Int),qgZ a b m i1=some o1∧e=[(0,.slice p1 a.length k1),(1,.slice p2 b.length k2),(5,.int .i64 i1)]∧SH w w' []) n ⟨_,hF,rfl,h⟩ rfl ?_)
 rintro m1 e1 w1 ⟨i1,hF,rfl,h⟩
 rcases m1 with _|m1
 ·cases hF
 refine X0 8 rfl (qh rfl hF ?_ ?_)<;>intro hF
 ·refine X0 4 rfl (rD (zd2 rfl ?_))
  obtain ⟨y1,hy1,hF,he1,b1,_,q1,cs3,hp1,hq1,hr1,hc3⟩:=s1.ix hF
  obtain ⟨p3,k3,p4,k4,rfl,s3,s4⟩:=qae hr1
  refine zdxe hp1 hq1 he1 rfl (zdc 0 (hc3.below h.below) rfl (zd2 rfl ?_))
  obtain ⟨y2,hy2,hF,he2,b2,_,q2,cs4,hp2,hq2,hr2,hc4⟩:=s2.ix hF
  obtain ⟨p5,k5,p6,k6,rfl,s5,s6⟩:=qae hr2
  refine zdxe hp2 hq2 he2 rfl (zdc 0 (hc4.below h.below) rfl ?_)
  obtain ⟨r1,hr3,hF⟩:=qc hF
  refine qa0 r1 (vsB _) (cB 233 rfl) (fun _ hb=>qr8 (qfY y1 ((h.ext hb).oldS s3) ((h.ext hb).oldS s4)) (qfY y2 ((h.ext hb).oldS s5) ((h.ext hb).oldS s6)) hr3) rfl rfl rfl rfl (zd1 rfl (dN h fun w2 h=>qh rfl hF ?_ ?_))<;>intro hF
  ·refine X0 4 rfl ?_
   obtain rfl:=qb hF;replace hF:=hK1
   exact rb h hF rfl
  exact X0 7 rfl (rK ⟨_,hF,rfl,h⟩ rfl)
 refine qq rfl ?_
 obtain rfl:=qb hF;replace hF:=hK1
 exact X0 4 rfl (rb h hF rfl)
def qjL (n:Nat) (a:qw) (b:qw):Option Bool :=
 bif (a.Bb.toList != b.Bb.toList) then some false else
 bif (a.Bf != b.Bf) then some false else
 (qlF n a.Bd b.Bd).bind fun r1 =>
 bif (!r1) then some false else
 (qlD n a.Au b.Au).bind fun r2 =>
 bif (!r2) then some false else
 (qaO n a.Bo b.Bo).bind fun r3 =>
 bif (!r3) then some false else
 bif (a.Ca != b.Ca) then some false else
 bif (a.Bu != b.Bu) then some false else
 some true
theorem qrq {a:qw} {b:qw} (ha1:Ro w a cs1) (ha2:Ro w b cs2) {r:Bool} (hF:qjL n a b=some r):RetV Tryz.prog 163 [GoT.v qw cs1,GoT.v qw cs2] w r:=by
 obtain ⟨p1,k1,p2,k2,p3,k3,rfl,s1,s2,s3⟩:=qad ha1
 obtain ⟨p4,k4,p5,k5,p6,k6,rfl,s4,s5,s6⟩:=qad ha2
 refine zV 43 Tryz.func163 rfl fun h=>zSR (qv h rfl rfl fun w1 bb1 h=>qv h rfl rfl fun w2 bb2 h=>X2 11 1 0 h rfl (qh rfl hF ?_ ?_))<;>intro hF
 ·exact X0 4 rfl (rb h hF rfl)
 refine X2 10 1 0 h rfl (qh rfl hF ?_ ?_)<;>intro hF
 ·exact X0 4 rfl (rb h hF rfl)
 refine X2 8 1 0 h rfl (zcB h hF (qrF ⟨_,_,rfl,(h.oldS s1)⟩ ⟨_,_,rfl,(h.oldS s4)⟩) rfl fun r1 w3 h hF=>X0 2 rfl (qh rfl hF ?_ ?_))<;>intro hF
 ·exact X0 4 rfl (rb h hF rfl)
 refine X2 8 1 0 h rfl (zcB h hF (qrn ⟨_,_,rfl,(h.oldS s2)⟩ ⟨_,_,rfl,(h.oldS s5)⟩) rfl fun r2 w4 h hF=>X0 2 rfl (qh rfl hF ?_ ?_))<;>intro hF
 ·exact X0 4 rfl (rb h hF rfl)
 refine X2 8 1 0 h rfl (zcB h hF (qaF ⟨_,_,rfl,(h.oldS s3)⟩ ⟨_,_,rfl,(h.oldS s6)⟩) rfl fun r3 w5 h hF=>X0 2 rfl (qh rfl hF ?_ ?_))<;>intro hF
 ·exact X0 4 rfl (rb h hF rfl)
 refine X2 10 1 0 h rfl (qh rfl hF ?_ ?_)<;>intro hF
 ·exact X0 4 rfl (rb h hF rfl)
 refine X2 10 1 0 h rfl (qh rfl hF ?_ ?_)<;>intro hF
 ·exact X0 4 rfl (rb h hF rfl)
 exact X0 5 rfl (rb h hF rfl)
def qgk (a:(List qw)) (b:(List qw)):Nat→Int→Option (Flow Bool Int)
 | 0,_=>none
 | n+1,i1 =>
  bif decide (i1<(a.length:Int)) then
   (idx a i1).bind fun y1 =>
   (idx b i1).bind fun y2 =>
   (qjL n y1 y2).bind fun r1 =>
   bif (!r1) then some (.ret false) else
   qgk a b n (W64 (i1+1))
  else
   some (.nxt i1)
def qkj (n:Nat) (a:(List qw)) (b:(List qw)):Option Bool :=
 bif ((a.length:Int) != (b.length:Int)) then some false else
 (qgk a b n 0).bind fun o=>match o with
 | .ret r=>some r
 | .nxt _ =>
  some true
theorem qqo {a:(List qw)} {b:(List qw)} (ha1:Ro w a cs1) (ha2:Ro w b cs2) {r:Bool} (hF:qkj n a b=some r):RetV Tryz.prog 114 [GoT.v (List qw) cs1,GoT.v (List qw) cs2] w r:=by
 obtain ⟨p1,k1,rfl,s1⟩:=ha1
 obtain ⟨p2,k2,rfl,s2⟩:=ha2
 refine zV 27 Tryz.func114 rfl fun h=>X0 13 rfl (qh rfl hF ?_ ?_)<;>intro hF
 ·exact X0 4 rfl (rb h hF rfl)
 refine X0 6 rfl ?_
 obtain ⟨o1,hF,hK1⟩:=qc hF
 refine qm (rL (fun m e w'=>∃ (i1:Int),qgk a b m i1=some o1∧e=[(0,.slice p1 a.length k1),(1,.slice p2 b.length k2),(5,.int .i64 i1)]∧SH w w' []) n ⟨_,hF,rfl,h⟩ rfl ?_)
 rintro m1 e1 w1 ⟨i1,hF,rfl,h⟩
 rcases m1 with _|m1
 ·cases hF
 refine X0 8 rfl (qh rfl hF ?_ ?_)<;>intro hF
 ·refine X0 4 rfl (rD (zd2 rfl ?_))
  obtain ⟨y1,hy1,hF,he1,b1,_,q1,cs3,hp1,hq1,hr1,hc3⟩:=s1.ix hF
  obtain ⟨p3,k3,p4,k4,p5,k5,rfl,s3,s4,s5⟩:=qad hr1
  refine zdxe hp1 hq1 he1 rfl (zdc 0 (hc3.below h.below) rfl (zd2 rfl ?_))
  obtain ⟨y2,hy2,hF,he2,b2,_,q2,cs4,hp2,hq2,hr2,hc4⟩:=s2.ix hF
  obtain ⟨p6,k6,p7,k7,p8,k8,rfl,s6,s7,s8⟩:=qad hr2
  refine zdxe hp2 hq2 he2 rfl (zdc 0 (hc4.below h.below) rfl ?_)
  obtain ⟨r1,hr3,hF⟩:=qc hF
  refine qa0 r1 (vsB _) (cB 163 rfl) (fun _ hb=>qrq (qkJ y1 ((h.ext hb).oldS s3) ((h.ext hb).oldS s4) ((h.ext hb).oldS s5)) (qkJ y2 ((h.ext hb).oldS s6) ((h.ext hb).oldS s7) ((h.ext hb).oldS s8)) hr3) rfl rfl rfl rfl (zd1 rfl (dN h fun w2 h=>qh rfl hF ?_ ?_))<;>intro hF
  ·refine X0 4 rfl ?_
   obtain rfl:=qb hF;replace hF:=hK1
   exact rb h hF rfl
  exact X0 7 rfl (rK ⟨_,hF,rfl,h⟩ rfl)
 refine qq rfl ?_
 obtain rfl:=qb hF;replace hF:=hK1
 exact X0 4 rfl (rb h hF rfl)
def qiN (n:Nat) (a:qn) (b:qn):Option Bool :=
 (qkj n a.As b.As).bind fun r1 =>
 bif (!r1) then some false else
 some true
theorem qpf {a:qn} {b:qn} (ha1:Ro w a cs1) (ha2:Ro w b cs2) {r:Bool} (hF:qiN n a b=some r):RetV Tryz.prog 73 [GoT.v qn cs1,GoT.v qn cs2] w r:=by
 obtain ⟨p1,k1,rfl,s1⟩:=qbz ha1
 obtain ⟨p2,k2,rfl,s2⟩:=qbz ha2
 refine zV 11 Tryz.func73 rfl fun h=>zSR (qv h rfl rfl fun w1 bb1 h=>qv h rfl rfl fun w2 bb2 h=>X2 9 1 0 h rfl (zcB h hF (qqo ⟨_,_,rfl,(h.oldS s1)⟩ ⟨_,_,rfl,(h.oldS s2)⟩) rfl fun r1 w3 h hF=>X0 2 rfl (qh rfl hF ?_ ?_)))<;>intro hF
 ·exact X0 4 rfl (rb h hF rfl)
 exact X0 5 rfl (rb h hF rfl)
def qgm (n:Nat) (a:qi) (b:qi):Option Bool :=
 bif (a.Bb.toList != b.Bb.toList) then some false else
 bif (a.Bt != b.Bt) then some false else
 (qaO n a.Ak b.Ak).bind fun r1 =>
 bif (!r1) then some false else
 some true
theorem qos {a:qi} {b:qi} (ha1:Ro w a cs1) (ha2:Ro w b cs2) {r:Bool} (hF:qgm n a b=some r):RetV Tryz.prog 164 [GoT.v qi cs1,GoT.v qi cs2] w r:=by
 obtain ⟨p1,k1,rfl,s1⟩:=qP ha1
 obtain ⟨p2,k2,rfl,s2⟩:=qP ha2
 refine zV 21 Tryz.func164 rfl fun h=>zSR (qv h rfl rfl fun w1 bb1 h=>qv h rfl rfl fun w2 bb2 h=>X2 11 1 0 h rfl (qh rfl hF ?_ ?_))<;>intro hF
 ·exact X0 4 rfl (rb h hF rfl)
 refine X2 10 1 0 h rfl (qh rfl hF ?_ ?_)<;>intro hF
 ·exact X0 4 rfl (rb h hF rfl)
 refine X2 8 1 0 h rfl (zcB h hF (qaF ⟨_,_,rfl,(h.oldS s1)⟩ ⟨_,_,rfl,(h.oldS s2)⟩) rfl fun r1 w3 h hF=>X0 2 rfl (qh rfl hF ?_ ?_))<;>intro hF
 ·exact X0 4 rfl (rb h hF rfl)
 exact X0 5 rfl (rb h hF rfl)
def qd6 (a:(List qi)) (b:(List qi)):Nat→Int→Option (Flow Bool Int)
 | 0,_=>none
 | n+1,i1 =>
  bif decide (i1<(a.length:Int)) then
   (idx a i1).bind fun y1 =>
   (idx b i1).bind fun y2 =>
   (qgm n y1 y2).bind fun r1 =>
   bif (!r1) then some (.ret false) else
   qd6 a b n (W64 (i1+1))
  else
   some (.nxt i1)
def qhf (n:Nat) (a:(List qi)) (b:(List qi)):Option Bool :=
 bif ((a.length:Int) != (b.length:Int)) then some false else
 (qd6 a b n 0).bind fun o=>match o with
 | .ret r=>some r
 | .nxt _ =>
  some true
theorem qn4 {a:(List qi)} {b:(List qi)} (ha1:Ro w a cs1) (ha2:Ro w b cs2) {r:Bool} (hF:qhf n a b=some r):RetV Tryz.prog 115 [GoT.v (List qi) cs1,GoT.v (List qi) cs2] w r:=by
 obtain ⟨p1,k1,rfl,s1⟩:=ha1
 obtain ⟨p2,k2,rfl,s2⟩:=ha2
 refine zV 27 Tryz.func115 rfl fun h=>X0 13 rfl (qh rfl hF ?_ ?_)<;>intro hF
 ·exact X0 4 rfl (rb h hF rfl)
 refine X0 6 rfl ?_
 obtain ⟨o1,hF,hK1⟩:=qc hF
 refine qm (rL (fun m e w'=>∃ (i1:Int),qd6 a b m i1=some o1∧e=[(0,.slice p1 a.length k1),(1,.slice p2 b.length k2),(5,.int .i64 i1)]∧SH w w' []) n ⟨_,hF,rfl,h⟩ rfl ?_)
 rintro m1 e1 w1 ⟨i1,hF,rfl,h⟩
 rcases m1 with _|m1
 ·cases hF
 refine X0 8 rfl (qh rfl hF ?_ ?_)<;>intro hF
 ·refine X0 4 rfl (rD (zd2 rfl ?_))
  obtain ⟨y1,hy1,hF,he1,b1,_,q1,cs3,hp1,hq1,hr1,hc3⟩:=s1.ix hF
  obtain ⟨p3,k3,rfl,s3⟩:=qP hr1
  refine zdxe hp1 hq1 he1 rfl (zdc 0 (hc3.below h.below) rfl (zd2 rfl ?_))
  obtain ⟨y2,hy2,hF,he2,b2,_,q2,cs4,hp2,hq2,hr2,hc4⟩:=s2.ix hF
  obtain ⟨p4,k4,rfl,s4⟩:=qP hr2
  refine zdxe hp2 hq2 he2 rfl (zdc 0 (hc4.below h.below) rfl ?_)
  obtain ⟨r1,hr3,hF⟩:=qc hF
  refine qa0 r1 (vsB _) (cB 164 rfl) (fun _ hb=>qos (qgy y1 ((h.ext hb).oldS s3)) (qgy y2 ((h.ext hb).oldS s4)) hr3) rfl rfl rfl rfl (zd1 rfl (dN h fun w2 h=>qh rfl hF ?_ ?_))<;>intro hF
  ·refine X0 4 rfl ?_
   obtain rfl:=qb hF;replace hF:=hK1
   exact rb h hF rfl
  exact X0 7 rfl (rK ⟨_,hF,rfl,h⟩ rfl)
 refine qq rfl ?_
 obtain rfl:=qb hF;replace hF:=hK1
 exact X0 4 rfl (rb h hF rfl)
def qfh (a:(List ByteArray)) (b:(List ByteArray)):Nat→Int→Option (Flow Bool Int)
 | 0,_=>none
 | n+1,i1 =>
  bif decide (i1<(a.length:Int)) then
   (idx a i1).bind fun y1 =>
   (idx b i1).bind fun y2 =>
   bif (y1.toList != y2.toList) then some (.ret false) else
   qfh a b n (W64 (i1+1))
  else
   some (.nxt i1)
def qiG (n:Nat) (a:(List ByteArray)) (b:(List ByteArray)):Option Bool :=
 bif ((a.length:Int) != (b.length:Int)) then some false else
 (qfh a b n 0).bind fun o=>match o with
 | .ret r=>some r
 | .nxt _ =>
  some true
theorem qoE {a:(List ByteArray)} {b:(List ByteArray)} (ha1:Ro w a cs1) (ha2:Ro w b cs2) {r:Bool} (hF:qiG n a b=some r):RetV Tryz.prog 116 [GoT.v (List ByteArray) cs1,GoT.v (List ByteArray) cs2] w r:=by
 obtain ⟨p1,k1,rfl,s1⟩:=ha1
 obtain ⟨p2,k2,rfl,s2⟩:=ha2
 refine zV 26 Tryz.func116 rfl fun h=>X0 13 rfl (qh rfl hF ?_ ?_)<;>intro hF
 ·exact X0 4 rfl (rb h hF rfl)
 refine X0 6 rfl ?_
 obtain ⟨o1,hF,hK1⟩:=qc hF
 refine qm (rL (fun m e w'=>∃ (i1:Int),qfh a b m i1=some o1∧e=[(0,.slice p1 a.length k1),(1,.slice p2 b.length k2),(5,.int .i64 i1)]∧SH w w' []) n ⟨_,hF,rfl,h⟩ rfl ?_)
 rintro m1 e1 w1 ⟨i1,hF,rfl,h⟩
 rcases m1 with _|m1
 ·cases hF
 refine X0 8 rfl (qh rfl hF ?_ ?_)<;>intro hF
 ·refine X0 4 rfl (rD (zd2 rfl ?_))
  obtain ⟨y1,hy1,hF,he1,b1,_,q1,cs3,hp1,hq1,rfl,hc3⟩:=s1.ix hF
  refine zdxe hp1 hq1 he1 rfl (zdc 0 (hc3.below h.below) rfl (zd2 rfl ?_))
  obtain ⟨y2,hy2,hF,he2,b2,_,q2,cs4,hp2,hq2,rfl,hc4⟩:=s2.ix hF
  refine zdxe hp2 hq2 he2 rfl (zdc 0 (hc4.below h.below) rfl (zd1 rfl (dN h fun w2 h=>qh rfl hF ?_ ?_)))<;>intro hF
  ·refine X0 4 rfl ?_
   obtain rfl:=qb hF;replace hF:=hK1
   exact rb h hF rfl
  exact X0 7 rfl (rK ⟨_,hF,rfl,h⟩ rfl)
 refine qq rfl ?_
 obtain rfl:=qb hF;replace hF:=hK1
 exact X0 4 rfl (rb h hF rfl)
def qjK (_:Nat) (a:qK) (b:qK):Option Bool :=
 bif (a.Bb.toList != b.Bb.toList) then some false else
 bif (a.Bv != b.Bv) then some false else
 bif (a.Bx != b.Bx) then some false else
 some true
theorem qrz {a:qK} {b:qK} (ha1:Ro w a cs1) (ha2:Ro w b cs2) {r:Bool} (hF:qjK n a b=some r):RetV Tryz.prog 165 [GoT.v qK cs1,GoT.v qK cs2] w r:=by
 obtain rfl:=qaV ha1
 obtain rfl:=qaV ha2
 refine zV 20 Tryz.func165 rfl fun h=>zSR (qv h rfl rfl fun w1 bb1 h=>qv h rfl rfl fun w2 bb2 h=>X2 11 1 0 h rfl (qh rfl hF ?_ ?_))<;>intro hF
 ·exact X0 4 rfl (rb h hF rfl)
 refine X2 10 1 0 h rfl (qh rfl hF ?_ ?_)<;>intro hF
 ·exact X0 4 rfl (rb h hF rfl)
 refine X2 10 1 0 h rfl (qh rfl hF ?_ ?_)<;>intro hF
 ·exact X0 4 rfl (rb h hF rfl)
 exact X0 5 rfl (rb h hF rfl)
def qgr (a:(List qK)) (b:(List qK)):Nat→Int→Option (Flow Bool Int)
 | 0,_=>none
 | n+1,i1 =>
  bif decide (i1<(a.length:Int)) then
   (idx a i1).bind fun y1 =>
   (idx b i1).bind fun y2 =>
   (qjK n y1 y2).bind fun r1 =>
   bif (!r1) then some (.ret false) else
   qgr a b n (W64 (i1+1))
  else
   some (.nxt i1)
def qks (n:Nat) (a:(List qK)) (b:(List qK)):Option Bool :=
 bif ((a.length:Int) != (b.length:Int)) then some false else
 (qgr a b n 0).bind fun o=>match o with
 | .ret r=>some r
 | .nxt _ =>
  some true
theorem qqM {a:(List qK)} {b:(List qK)} (ha1:Ro w a cs1) (ha2:Ro w b cs2) {r:Bool} (hF:qks n a b=some r):RetV Tryz.prog 117 [GoT.v (List qK) cs1,GoT.v (List qK) cs2] w r:=by
 obtain ⟨p1,k1,rfl,s1⟩:=ha1
 obtain ⟨p2,k2,rfl,s2⟩:=ha2
 refine zV 27 Tryz.func117 rfl fun h=>X0 13 rfl (qh rfl hF ?_ ?_)<;>intro hF
 ·exact X0 4 rfl (rb h hF rfl)
 refine X0 6 rfl ?_
 obtain ⟨o1,hF,hK1⟩:=qc hF
 refine qm (rL (fun m e w'=>∃ (i1:Int),qgr a b m i1=some o1∧e=[(0,.slice p1 a.length k1),(1,.slice p2 b.length k2),(5,.int .i64 i1)]∧SH w w' []) n ⟨_,hF,rfl,h⟩ rfl ?_)
 rintro m1 e1 w1 ⟨i1,hF,rfl,h⟩
 rcases m1 with _|m1
 ·cases hF
 refine X0 8 rfl (qh rfl hF ?_ ?_)<;>intro hF
 ·refine X0 4 rfl (rD (zd2 rfl ?_))
  obtain ⟨y1,hy1,hF,he1,b1,_,q1,cs3,hp1,hq1,hr1,hc3⟩:=s1.ix hF
  obtain rfl:=qaV hr1
  refine zdxe hp1 hq1 he1 rfl (zdc 0 (hc3.below h.below) rfl (zd2 rfl ?_))
  obtain ⟨y2,hy2,hF,he2,b2,_,q2,cs4,hp2,hq2,hr2,hc4⟩:=s2.ix hF
  obtain rfl:=qaV hr2
  refine zdxe hp2 hq2 he2 rfl (zdc 0 (hc4.below h.below) rfl ?_)
  obtain ⟨r1,hr3,hF⟩:=qc hF
  refine qa0 r1 (vsB _) (cB 165 rfl) (fun _ hb=>qrz (qes y1) (qes y2) hr3) rfl rfl rfl rfl (zd1 rfl (dN h fun w2 h=>qh rfl hF ?_ ?_))<;>intro hF
  ·refine X0 4 rfl ?_
   obtain rfl:=qb hF;replace hF:=hK1
   exact rb h hF rfl
  exact X0 7 rfl (rK ⟨_,hF,rfl,h⟩ rfl)
 refine qq rfl ?_
 obtain rfl:=qb hF;replace hF:=hK1
 exact X0 4 rfl (rb h hF rfl)
def qjy (n:Nat) (a:qd) (b:qd):Option Bool :=
 (qhf n a.Aa b.Aa).bind fun r1 =>
 bif (!r1) then some false else
 (qiG n a.Ak b.Ak).bind fun r2 =>
 bif (!r2) then some false else
 (qks n a.Aj b.Aj).bind fun r3 =>
 bif (!r3) then some false else
 some true
theorem qpH {a:qd} {b:qd} (ha1:Ro w a cs1) (ha2:Ro w b cs2) {r:Bool} (hF:qjy n a b=some r):RetV Tryz.prog 74 [GoT.v qd cs1,GoT.v qd cs2] w r:=by
 obtain ⟨p1,k1,p2,k2,p3,k3,rfl,s1,s2,s3⟩:=qay ha1
 obtain ⟨p4,k4,p5,k5,p6,k6,rfl,s4,s5,s6⟩:=qay ha2
 refine zV 23 Tryz.func74 rfl fun h=>zSR (qv h rfl rfl fun w1 bb1 h=>qv h rfl rfl fun w2 bb2 h=>X2 9 1 0 h rfl (zcB h hF (qn4 ⟨_,_,rfl,(h.oldS s1)⟩ ⟨_,_,rfl,(h.oldS s4)⟩) rfl fun r1 w3 h hF=>X0 2 rfl (qh rfl hF ?_ ?_)))<;>intro hF
 ·exact X0 4 rfl (rb h hF rfl)
 refine X2 8 1 0 h rfl (zcB h hF (qoE ⟨_,_,rfl,(h.oldS s2)⟩ ⟨_,_,rfl,(h.oldS s5)⟩) rfl fun r2 w4 h hF=>X0 2 rfl (qh rfl hF ?_ ?_))<;>intro hF
 ·exact X0 4 rfl (rb h hF rfl)
 refine X2 8 1 0 h rfl (zcB h hF (qqM ⟨_,_,rfl,(h.oldS s3)⟩ ⟨_,_,rfl,(h.oldS s6)⟩) rfl fun r3 w5 h hF=>X0 2 rfl (qh rfl hF ?_ ?_))<;>intro hF
 ·exact X0 4 rfl (rb h hF rfl)
 exact X0 5 rfl (rb h hF rfl)
def qj2 (n:Nat) (a:qD) (b:qD):Option Bool :=
 (qaO n a.Am b.Am).bind fun r1 =>
 bif (!r1) then some false else
 (qaO n a.Bw b.Bw).bind fun r2 =>
 bif (!r2) then some false else
 (qaO n a.Bs b.Bs).bind fun r3 =>
 bif (!r3) then some false else
 (qaO n a.Bl b.Bl).bind fun r4 =>
 bif (!r4) then some false else
 some true
theorem qq1 {a:qD} {b:qD} (ha1:Ro w a cs1) (ha2:Ro w b cs2) {r:Bool} (hF:qj2 n a b=some r):RetV Tryz.prog 118 [GoT.v qD cs1,GoT.v qD cs2] w r:=by
 obtain ⟨p1,k1,p2,k2,p3,k3,p4,k4,rfl,s1,s2,s3,s4⟩:=qaN ha1
 obtain ⟨p5,k5,p6,k6,p7,k7,p8,k8,rfl,s5,s6,s7,s8⟩:=qaN ha2
 refine zV 29 Tryz.func118 rfl fun h=>zSR (qv h rfl rfl fun w1 bb1 h=>qv h rfl rfl fun w2 bb2 h=>X2 9 1 0 h rfl (zcB h hF (qaF ⟨_,_,rfl,(h.oldS s1)⟩ ⟨_,_,rfl,(h.oldS s5)⟩) rfl fun r1 w3 h hF=>X0 2 rfl (qh rfl hF ?_ ?_)))<;>intro hF
 ·exact X0 4 rfl (rb h hF rfl)
 refine X2 8 1 0 h rfl (zcB h hF (qaF ⟨_,_,rfl,(h.oldS s2)⟩ ⟨_,_,rfl,(h.oldS s6)⟩) rfl fun r2 w4 h hF=>X0 2 rfl (qh rfl hF ?_ ?_))<;>intro hF
 ·exact X0 4 rfl (rb h hF rfl)
 refine X2 8 1 0 h rfl (zcB h hF (qaF ⟨_,_,rfl,(h.oldS s3)⟩ ⟨_,_,rfl,(h.oldS s7)⟩) rfl fun r3 w5 h hF=>X0 2 rfl (qh rfl hF ?_ ?_))<;>intro hF
 ·exact X0 4 rfl (rb h hF rfl)
 refine X2 8 1 0 h rfl (zcB h hF (qaF ⟨_,_,rfl,(h.oldS s4)⟩ ⟨_,_,rfl,(h.oldS s8)⟩) rfl fun r4 w6 h hF=>X0 2 rfl (qh rfl hF ?_ ?_))<;>intro hF
 ·exact X0 4 rfl (rb h hF rfl)
 exact X0 5 rfl (rb h hF rfl)
def qgx (a:(List qD)) (b:(List qD)):Nat→Int→Option (Flow Bool Int)
 | 0,_=>none
 | n+1,i1 =>
  bif decide (i1<(a.length:Int)) then
   (idx a i1).bind fun y1 =>
   (idx b i1).bind fun y2 =>
   (qj2 n y1 y2).bind fun r1 =>
   bif (!r1) then some (.ret false) else
   qgx a b n (W64 (i1+1))
  else
   some (.nxt i1)
def qki (n:Nat) (a:(List qD)) (b:(List qD)):Option Bool :=
 bif ((a.length:Int) != (b.length:Int)) then some false else
 (qgx a b n 0).bind fun o=>match o with
 | .ret r=>some r
 | .nxt _ =>
  some true
theorem qqK {a:(List qD)} {b:(List qD)} (ha1:Ro w a cs1) (ha2:Ro w b cs2) {r:Bool} (hF:qki n a b=some r):RetV Tryz.prog 75 [GoT.v (List qD) cs1,GoT.v (List qD) cs2] w r:=by
 obtain ⟨p1,k1,rfl,s1⟩:=ha1
 obtain ⟨p2,k2,rfl,s2⟩:=ha2
 refine zV 27 Tryz.func75 rfl fun h=>X0 13 rfl (qh rfl hF ?_ ?_)<;>intro hF
 ·exact X0 4 rfl (rb h hF rfl)
 refine X0 6 rfl ?_
 obtain ⟨o1,hF,hK1⟩:=qc hF
 refine qm (rL (fun m e w'=>∃ (i1:Int),qgx a b m i1=some o1∧e=[(0,.slice p1 a.length k1),(1,.slice p2 b.length k2),(5,.int .i64 i1)]∧SH w w' []) n ⟨_,hF,rfl,h⟩ rfl ?_)
 rintro m1 e1 w1 ⟨i1,hF,rfl,h⟩
 rcases m1 with _|m1
 ·cases hF
 refine X0 8 rfl (qh rfl hF ?_ ?_)<;>intro hF
 ·refine X0 4 rfl (rD (zd2 rfl ?_))
  obtain ⟨y1,hy1,hF,he1,b1,_,q1,cs3,hp1,hq1,hr1,hc3⟩:=s1.ix hF
  obtain ⟨p3,k3,p4,k4,p5,k5,p6,k6,rfl,s3,s4,s5,s6⟩:=qaN hr1
  refine zdxe hp1 hq1 he1 rfl (zdc 0 (hc3.below h.below) rfl (zd2 rfl ?_))
  obtain ⟨y2,hy2,hF,he2,b2,_,q2,cs4,hp2,hq2,hr2,hc4⟩:=s2.ix hF
  obtain ⟨p7,k7,p8,k8,p9,k9,p10,k10,rfl,s7,s8,s9,s10⟩:=qaN hr2
  refine zdxe hp2 hq2 he2 rfl (zdc 0 (hc4.below h.below) rfl ?_)
  obtain ⟨r1,hr3,hF⟩:=qc hF
  refine qa0 r1 (vsB _) (cB 118 rfl) (fun _ hb=>qq1 (qkC y1 ((h.ext hb).oldS s3) ((h.ext hb).oldS s4) ((h.ext hb).oldS s5) ((h.ext hb).oldS s6)) (qkC y2 ((h.ext hb).oldS s7) ((h.ext hb).oldS s8) ((h.ext hb).oldS s9) ((h.ext hb).oldS s10)) hr3) rfl rfl rfl rfl (zd1 rfl (dN h fun w2 h=>qh rfl hF ?_ ?_))<;>intro hF
  ·refine X0 4 rfl ?_
   obtain rfl:=qb hF;replace hF:=hK1
   exact rb h hF rfl
  exact X0 7 rfl (rK ⟨_,hF,rfl,h⟩ rfl)
 refine qq rfl ?_
 obtain rfl:=qb hF;replace hF:=hK1
 exact X0 4 rfl (rb h hF rfl)
def qko (n:Nat) (a:qg) (b:qg):Option Bool :=
 (qiN n (⟨a.Av.As⟩:qn) (⟨b.Av.As⟩:qn)).bind fun r1 =>
 bif (!r1) then some false else
 (qjy n (⟨a.Ab.Aa,a.Ab.Ak,a.Ab.Aj⟩:qd) (⟨b.Ab.Aa,b.Ab.Ak,b.Ab.Aj⟩:qd)).bind fun r2 =>
 bif (!r2) then some false else
 (qki n a.Ac b.Ac).bind fun r3 =>
 bif (!r3) then some false else
 some true
theorem qqy {a:qg} {b:qg} (ha1:Ro w a cs1) (ha2:Ro w b cs2) {r:Bool} (hF:qko n a b=some r):RetV Tryz.prog 43 [GoT.v qg cs1,GoT.v qg cs2] w r:=by
 obtain ⟨p1,k1,p2,k2,p3,k3,p4,k4,p5,k5,rfl,s1,s2,s3,s4,s5⟩:=qac ha1
 obtain ⟨p6,k6,p7,k7,p8,k8,p9,k9,p10,k10,rfl,s6,s7,s8,s9,s10⟩:=qac ha2
 refine zV 23 Tryz.func43 rfl fun h=>zSR (qv h rfl rfl fun w1 bb1 h=>qv h rfl rfl fun w2 bb2 h=>X2 9 1 0 h rfl (zcB h hF (qpf (qd9 _ (h.oldS s1)) (qd9 _ (h.oldS s6))) rfl fun r1 w3 h hF=>X0 2 rfl (qh rfl hF ?_ ?_)))<;>intro hF
 ·exact X0 4 rfl (rb h hF rfl)
 refine X2 8 1 0 h rfl (zcB h hF (qpH (qar _ (h.oldS s2) (h.oldS s3) (h.oldS s4)) (qar _ (h.oldS s7) (h.oldS s8) (h.oldS s9))) rfl fun r2 w4 h hF=>X0 2 rfl (qh rfl hF ?_ ?_))<;>intro hF
 ·exact X0 4 rfl (rb h hF rfl)
 refine X2 8 1 0 h rfl (zcB h hF (qqK ⟨_,_,rfl,(h.oldS s5)⟩ ⟨_,_,rfl,(h.oldS s10)⟩) rfl fun r3 w5 h hF=>X0 2 rfl (qh rfl hF ?_ ?_))<;>intro hF
 ·exact X0 4 rfl (rb h hF rfl)
 exact X0 5 rfl (rb h hF rfl)
def qcK (i1:Int) (y1:qi):Nat→(List Tl05Place)→Int→Option ((List Tl05Place) × Int)
 | 0,_,_=>none
 | n+1,x2,i2 =>
  bif decide (i2<(y1.Ak.length:Int)) then
   (idx y1.Ak i2).bind fun y2 =>
   (appS x2 ([(⟨i1,i2,y2,(i2==(W64 ((y1.Ak.length:Int)-1)))⟩:Tl05Place)]:List Tl05Place)).bind fun x3 =>
   qcK i1 y1 n x3 (W64 (i2+1))
  else
   some (x2,i2)
def qcJ (a_0:qd):Nat→(List Tl05Place)→Int→Option ((List Tl05Place) × Int)
 | 0,_,_=>none
 | n+1,x4,i3 =>
  bif decide (i3<(a_0.Aj.length:Int)) then
   (idx a_0.Aj i3).bind fun y3 =>
   (idx a_0.Aj i3).bind fun y4 =>
   (appS x4 ([(⟨(-1),i3,y3.Bx,(y4.Bv==1)⟩:Tl05Place)]:List Tl05Place)).bind fun x5 =>
   qcJ a_0 n x5 (W64 (i3+1))
  else
   some (x4,i3)
def qcF (a_0:qd):Nat→(List Tl05Place)→Int→Option ((List Tl05Place) × Int)
 | 0,_,_=>none
 | n+1,x1,i1 =>
  bif decide (i1<(a_0.Aa.length:Int)) then
   (idx a_0.Aa i1).bind fun y1 =>
   (qcK i1 y1 n x1 0).bind fun o=>match o with
   | (x2,_) =>
    qcF a_0 n x2 (W64 (i1+1))
  else
   some (x1,i1)
def qcg (n:Nat) (a_0:qd):Option (List Tl05Place) :=
 (qcF a_0 n ([]:List Tl05Place) 0).bind fun o=>match o with
 | (x1,_) =>
  (qcJ a_0 n x1 0).bind fun o=>match o with
  | (x4,_) =>
   some x4
theorem qcc {a_0:qd} (ha1:Ro w a_0 cs1) {r:(List Tl05Place)} (hF:qcg n a_0=some r):RetV Tryz.prog 152 [GoT.v qd cs1] w r:=by
 obtain ⟨p1,k1,p2,k2,p3,k3,rfl,s1,s2,s3⟩:=qay ha1
 refine zV 69 Tryz.func152 rfl fun h=>zSR (qv h rfl rfl fun w1 bb1 h=>X0 4 rfl (qL qa [] _ ([]:List Tl05Place) h rfl rfl rfl rfl rfl rfl rfl rfl rfl trivial rfl fun w2 p4 S1 h=>X0 7 rfl ?_))
 obtain ⟨o1,hF,hK1⟩:=qc hF
 refine qm (rL (fun m e w'=>∃ (S2:Nat→Prop) (p5:Option Addr) (ln1:Nat) (k4:Nat) (x1:(List Tl05Place)) (i1:Int),qcF a_0 m x1 i1=some o1∧e=[(1,.pointer (some ⟨bb1,0,none⟩)),(3,.slice p5 ln1 k4),(4,.int .i64 i1)]∧SH w w' [Ch.own S2 (x1:List Tl05Place) [.slice p5 ln1 k4],Ch.box bb1 (qaS a_0 p1 p2 p3 k1 k2 k3) 48]) n ⟨_,_,_,_,_,_,hF,rfl,h⟩ rfl ?_)
 rintro m1 e1 w3 ⟨S2,p5,ln1,k4,x1,i1,hF,rfl,h⟩
 obtain rfl:=(h.sl 0 rfl).2
 rcases m1 with _|m1
 ·cases hF
 refine X1 9 1 h rfl (qh rfl hF ?_ ?_)<;>intro hF
 ·refine X1 8 1 h rfl ?_
  obtain ⟨y1,hy1,hF,he1,b1,_,q1,cs2,hp1,hq1,hr1,hc2⟩:=s1.ix hF
  obtain ⟨p6,k5,rfl,s4⟩:=qP hr1
  refine zxe hp1 hq1 he1 rfl (zp1 rfl (zc 2 (hc2.below h.below) rfl (X0 6 rfl ?_)))
  obtain ⟨o2,hF,hK2⟩:=qc hF
  refine qm (rL (fun m e w'=>∃ (S3:Nat→Prop) (p7:Option Addr) (ln2:Nat) (k6:Nat) (x2:(List Tl05Place)) (i2:Int),qcK i1 y1 m x2 i2=some o2∧e=[(1,.pointer (some ⟨bb1,0,none⟩)),(3,.slice p7 ln2 k6),(4,.int .i64 i1),(5,.slice p6 y1.Ak.length k5),(6,.int .i64 i2)]∧SH w w' [Ch.own S3 (x2:List Tl05Place) [.slice p7 ln2 k6],Ch.box bb1 (qaS a_0 p1 p2 p3 k1 k2 k3) 48]) m1 ⟨_,_,_,_,_,_,hF,rfl,h⟩ rfl ?_)
  rintro m2 e2 w4 ⟨S3,p7,ln2,k6,x2,i2,hF,rfl,h⟩
  obtain rfl:=(h.sl 0 rfl).2
  rcases m2 with _|m2
  ·cases hF
  refine X0 8 rfl (qh rfl hF ?_ ?_)<;>intro hF
  ·refine X0 9 rfl ?_
   obtain ⟨y2,hy2,hF,he2,b2,_,q2,cs3,hp2,hq2,rfl,hc4⟩:=s4.ix hF
   refine zxe hp2 hq2 he2 rfl (zc 0 (hc4.below h.below) rfl (zp5 rfl (r_v (qaa qa [0,1,2,3] [.tmp 29,.tmp 30,.tmp 34,.tmp 39] rfl rfl rfl rfl rfl rfl rfl rfl) rfl (qL qa [.tmp 40] _ ([(⟨i1,i2,y2,(i2==(W64 ((y1.Ak.length:Int)-1)))⟩:Tl05Place)]:List Tl05Place) h rfl rfl rfl rfl rfl rfl rfl rfl rfl ⟨(qfw (⟨i1,i2,y2,(i2==(W64 ((y1.Ak.length:Int)-1)))⟩:Tl05Place)),trivial⟩ rfl fun w5 p8 S4 h=>?_))))
   obtain ⟨x3,hx1,hF⟩:=qc hF
   obtain ⟨g1,hx1⟩:=qaw hx1
   refine qcC qa 1 h rfl (h.sl 0 rfl).1 (h.sl 0 rfl).2 rfl rfl rfl rfl rfl rfl rfl rfl rfl g1 hx1 rfl fun w6 p9 k7 S5 h=>X0 8 rfl ?_
   replace h:=h.pick [1,2] rfl
   exact rK ⟨_,_,_,_,_,_,hF,rfl,h⟩ rfl
  refine qq rfl ?_
  obtain rfl:=qb hF;replace hF:=hK2
  exact X0 6 rfl (rK ⟨_,_,_,_,_,_,hF,rfl,h⟩ rfl)
 refine qq rfl ?_
 obtain rfl:=qb hF;replace hF:=hK1
 refine X0 5 rfl ?_
 obtain ⟨o3,hF,hK3⟩:=qc hF
 refine qm (rL (fun m e w'=>∃ (S6:Nat→Prop) (p10:Option Addr) (ln3:Nat) (k8:Nat) (x4:(List Tl05Place)) (i3:Int),qcJ a_0 m x4 i3=some o3∧e=[(1,.pointer (some ⟨bb1,0,none⟩)),(3,.slice p10 ln3 k8),(7,.int .i64 i3)]∧SH w w' [Ch.own S6 (x4:List Tl05Place) [.slice p10 ln3 k8],Ch.box bb1 (qaS a_0 p1 p2 p3 k1 k2 k3) 48]) n ⟨_,_,_,_,_,_,hF,rfl,h⟩ rfl ?_)
 rintro m3 e3 w7 ⟨S6,p10,ln3,k8,x4,i3,hF,rfl,h⟩
 obtain rfl:=(h.sl 0 rfl).2
 rcases m3 with _|m3
 ·cases hF
 refine X1 9 1 h rfl (qh rfl hF ?_ ?_)<;>intro hF
 ·refine zKSB (rA [] [1] h rfl fun w8 h=>M1 31 [0,1,2,3,4] 0 (h.pick [1] rfl) rfl ?_)
  obtain ⟨y3,hy3,hF,he3,b3,_,q3,cs4,hp3,hq3,hr3,hc6⟩:=s3.ix hF
  obtain rfl:=qaV hr3
  refine Ae 5 63 hp3 hq3 he3 (h.pick [1] rfl) rfl (M0 127 [6] (h.pick [1] rfl) rfl (Al 7 255 2 hc6 (h.pick [1] rfl) rfl (M1 2047 [8,9,10] 0 (h.pick [1] rfl) rfl ?_)))
  obtain ⟨y4,hy4,hF,he4,b4,_,q4,cs5,hp4,hq4,hr4,hc7⟩:=s3.ix hF
  obtain rfl:=qaV hr4
  refine Ae 11 4095 hp4 hq4 he4 (h.pick [1] rfl) rfl (M0 8191 [12] (h.pick [1] rfl) rfl (Al 13 16383 1 hc7 (h.pick [1] rfl) rfl (M0 32767 [14] (h.pick [1] rfl) rfl (Aw 15 65535 (fun w' hw=>qaa qa [0,1,2,3] [.const (.int .i64 (-1)),.tmp 51,.tmp 57,.tmp 64] rfl rfl rfl rfl rfl rfl rfl rfl) (h.pick [1] rfl) rfl ?_))))
  refine Ao 16 131071 rfl (qL qa [.tmp 65] _ ([(⟨(-1),i3,y3.Bx,(y4.Bv==1)⟩:Tl05Place)]:List Tl05Place) h rfl rfl rfl rfl rfl rfl rfl rfl rfl ⟨(qfw (⟨(-1),i3,y3.Bx,(y4.Bv==1)⟩:Tl05Place)),trivial⟩ rfl fun w9 p11 S7 h=>Ag (h.pick [2] rfl) (Ao 17 262143 rfl ?_))
  obtain ⟨x5,hx2,hF⟩:=qc hF
  obtain ⟨g2,hx2⟩:=qaw hx2
  refine qcC qa 1 h rfl (h.sl 0 rfl).1 (h.sl 0 rfl).2 rfl rfl rfl rfl rfl rfl rfl rfl rfl g2 hx2 rfl fun w10 p12 k9 S8 h=>G0 524287 [18] (h.pick [2] rfl) rfl (Ad (X0 6 rfl ?_))
  replace h:=h.pick [1,2] rfl
  exact rK ⟨_,_,_,_,_,_,hF,rfl,h⟩ rfl
 refine qq rfl ?_
 obtain rfl:=qb hF;replace hF:=hK3
 refine X0 5 rfl ?_
 obtain rfl:=qb hF
 exact rO 0 h rfl ⟨rfl,trivial⟩
def qcy (net:Int) (r1:(List Tl05Place)):Nat→(List Int)→Int→Option ((List Int) × Int)
 | 0,_,_=>none
 | n+1,x1,i1 =>
  bif decide (i1<(r1.length:Int)) then
   (
    (idx r1 i1).bind fun y1 =>
    bif (y1.net==net) then
     (idx r1 i1).bind fun y2 =>
     some (!y2.drives)
    else
     some false).bind fun b1 =>
   bif b1 then
    (appS x1 ([i1]:List Int)).bind fun x2 =>
    qcy net r1 n x2 (W64 (i1+1))
   else
    qcy net r1 n x1 (W64 (i1+1))
  else
   some (x1,i1)
def qgC (n:Nat) (d:qd) (net:Int):Option (List Int) :=
 (qcg n d).bind fun r1 =>
 (qcy net r1 n ([]:List Int) 0).bind fun o=>match o with
 | (x1,_) =>
  some x1
theorem qi9 {d:qd} {net:Int} (ha1:Ro w d cs1) {r:(List Int)} (hF:qgC n d net=some r):RetV Tryz.prog 95 [GoT.v qd cs1,.int .i64 net] w r:=by
 obtain ⟨p1,k1,p2,k2,p3,k3,rfl,s1,s2,s3⟩:=qay ha1
 refine zV 37 Tryz.func95 rfl fun h=>zSR (qv h rfl rfl fun w1 bb1 h=>X0 4 rfl (qL qa [] _ ([]:List Int) h rfl rfl rfl rfl rfl rfl rfl rfl rfl trivial rfl fun w2 p4 S1 h=>X1 5 1 h rfl (zcL h hF (qcc (h.old ha1)) rfl fun r1 w3 S2 p5 k4 h hF=>X0 7 rfl ?_)))
 obtain ⟨o1,hF,hK1⟩:=qc hF
 refine qm ?_
 replace h:=h.pick [0,1] rfl
 refine rL (fun m e w'=>∃ (S3:Nat→Prop) (p6:Option Addr) (ln1:Nat) (k5:Nat) (x1:(List Int)) (i1:Int),qcy net r1 m x1 i1=some o1∧e=[(1,.int .i64 net),(5,.slice p6 ln1 k5),(6,.slice p5 r1.length k4),(7,.int .i64 i1)]∧SH w w' [Ch.own S2 (r1:List Tl05Place) [.slice p5 r1.length k4],Ch.own S3 (x1:List Int) [.slice p6 ln1 k5]]) n ⟨_,_,_,_,_,_,hF,rfl,h⟩ rfl ?_
 rintro m1 e1 w4 ⟨S3,p6,ln1,k5,x1,i1,hF,rfl,h⟩
 obtain rfl:=(h.sl 1 rfl).2
 rcases m1 with _|m1
 ·cases hF
 refine X0 8 rfl (qh rfl hF ?_ ?_)<;>intro hF
 ·refine X0 4 rfl ?_
  obtain ⟨KF1,hKF1,o2,hF,hK2⟩:=bindE hF
  refine qbe (fun e w'=>∃ (b1:Bool),KF1 b1=some o1∧e=[(1,.int .i64 net),(5,.slice p6 x1.length k5),(6,.slice p5 r1.length k4),(7,.int .i64 i1),(31,.bool b1)]∧SH w w' [Ch.own S2 (r1:List Tl05Place) [.slice p5 r1.length k4],Ch.own S3 (x1:List Int) [.slice p6 x1.length k5]]) ?_ ?_
  ·refine X0 3 rfl ?_
   obtain ⟨y1,hy1,hF,he1,b2,_,q1,cs2,hp1,hq1,hr2,hc3⟩:=(h.sl 0 rfl).1.ix hF
   obtain rfl:=qbL hr2
   refine zx hp1 hq1 ⟨he1.1,qC he1.2.1 (h.sl 0 rfl).2⟩ rfl (zp1 rfl (zc 2 hc3 rfl (zp3 rfl (qj (t:=24) hF rfl ?_ ?_))))<;>intro hF
   ·refine X0 5 rfl ?_
    obtain ⟨y2,hy2,hF,he2,b3,_,q2,cs3,hp2,hq2,hr3,hc4⟩:=(h.sl 0 rfl).1.ix hF
    obtain rfl:=qbL hr3
    refine zx hp2 hq2 ⟨he2.1,qC he2.2.1 (h.sl 0 rfl).2⟩ rfl (X0 3 rfl (zc 3 hc4 rfl (X0 4 rfl ?_)))
    obtain rfl:=qb hF
    exact rG ⟨_,hK2,rfl,h⟩ rfl
   refine X0 8 rfl ?_
   obtain rfl:=qb hF
   exact rG ⟨_,hK2,rfl,h⟩ rfl
  rintro e2 w7 ⟨b1,hF,rfl,h⟩
  subst hKF1
  refine qh rfl hF ?_ ?_<;>intro hF
  ·refine X0 3 rfl (qL qa [.tmp 33] _ ([i1]:List Int) h rfl rfl rfl rfl rfl rfl rfl rfl rfl ⟨rfl,trivial⟩ rfl fun w5 p7 S4 h=>?_)
   obtain ⟨x2,hx1,hF⟩:=qc hF
   obtain ⟨g1,hx1⟩:=qaw hx1
   refine qcC qa 2 h rfl (h.sl 0 rfl).1 (h.sl 0 rfl).2 rfl rfl rfl rfl rfl rfl rfl rfl rfl g1 hx1 rfl fun w6 p8 k6 S5 h=>X0 8 rfl ?_
   replace h:=h.pick [1,2] rfl
   exact rK ⟨_,_,_,_,_,_,hF,rfl,h⟩ rfl
  exact X0 7 rfl (rK ⟨_,_,_,_,_,_,hF,rfl,h⟩ rfl)
 refine qq rfl ?_
 obtain rfl:=qb hF;replace hF:=hK1
 refine X0 5 rfl ?_
 obtain rfl:=qb hF
 exact rO 1 h rfl ⟨rfl,trivial⟩
def qau (_:Nat) (a_n:Int) (low:Int) (high:Int):Option Bool :=
 bif decide (a_n ≥ low) then some (decide (a_n≤high)) else
 some false
theorem qai {a_n:Int} {low:Int} {high:Int}  {r:Bool} (hF:qau n a_n low high=some r):RetV Tryz.prog 63 [.int .i64 a_n,.int .i64 low,.int .i64 high] w r:=by
 refine zV 15 Tryz.func63 rfl fun h=>X0 10 rfl (qj (t:=10) hF rfl ?_ ?_)<;>intro hF
 ·exact X0 9 rfl (rb h hF rfl)
 exact X0 6 rfl (rb h hF rfl)
def qdV (s:ByteArray):Nat→Int→Option (Flow Bool Int)
 | 0,_=>none
 | n+1,i1 =>
  bif decide (i1<(s.size:Int)) then
   (
    (atS s i1).bind fun y3 =>
    bif decide (y3 ≥ 97) then
     (atS s i1).bind fun y4 =>
     some (decide (y4≤122))
    else
     some false).bind fun b1 =>
   (
    (atS s i1).bind fun y1 =>
    bif decide (y1 ≥ 48) then
     (atS s i1).bind fun y2 =>
     some (decide (y2≤57))
    else
     some false).bind fun b2 =>
   bif (!b1) then
    bif b2 then
     bif (!(decide (i1 > 0))) then some (.ret false) else
     qdV s n (W64 (i1+1))
    else
     some (.ret false)
   else
    qdV s n (W64 (i1+1))
  else
   some (.nxt i1)
def qf7 (n:Nat) (s:ByteArray):Option Bool :=
 (qdV s n 0).bind fun o=>match o with
 | .ret r=>some r
 | .nxt _ =>
  bif decide ((s.size:Int) ≥ 1) then some (decide ((s.size:Int)≤8)) else
  some false
theorem qh1 {s:ByteArray}  {r:Bool} (hF:qf7 n s=some r):RetV Tryz.prog 179 [.string s] w r:=by
 refine zV 50 Tryz.func179 rfl fun h=>X0 9 rfl ?_
 obtain ⟨o1,hF,hK1⟩:=qc hF
 refine qm (rL (fun m e w'=>∃ (i1:Int),qdV s m i1=some o1∧e=[(0,.string s),(3,.int .i64 i1)]∧SH w w' []) n ⟨_,hF,rfl,h⟩ rfl ?_)
 rintro m1 e1 w1 ⟨i1,hF,rfl,h⟩
 rcases m1 with _|m1
 ·cases hF
 refine X0 8 rfl (qh rfl hF ?_ ?_)<;>intro hF
 ·refine X0 4 rfl ?_
  obtain ⟨KF2,hKF2,o3,hF,hK3⟩:=bindE hF
  refine qbe (fun e w'=>∃ (b1:Bool),KF2 b1=some o1∧e=[(0,.string s),(3,.int .i64 i1),(4,.bool b1)]∧SH w w' []) ?_ ?_
  ·refine X0 3 rfl ?_
   obtain ⟨y3,hx3,hF⟩:=qc hF
   have g3:=qnp hx3
   refine r_v (qne qa g3 rfl rfl rfl rfl) rfl (zp2 rfl (qj (t:=16) hF rfl ?_ ?_))<;>intro hF
   ·refine X0 5 rfl ?_
    obtain ⟨y4,hx4,hF⟩:=qc hF
    have g4:=qnp hx4
    refine r_v (qne qa g4 rfl rfl rfl rfl) rfl (X0 5 rfl ?_)
    obtain rfl:=qb hF
    exact rG ⟨_,hK3,rfl,h⟩ rfl
   refine X0 7 rfl ?_
   obtain rfl:=qb hF
   exact rG ⟨_,hK3,rfl,h⟩ rfl
  rintro e3 w3 ⟨b1,hF,rfl,h⟩
  subst hKF2
  refine qcP ?_
  obtain ⟨KF1,hKF1,o2,hF,hK2⟩:=bindE hF
  refine qbe (fun e w'=>∃ (b2:Bool),KF1 b2=some o1∧e=[(0,.string s),(3,.int .i64 i1),(4,.bool b1),(5,.bool b2)]∧SH w w' []) ?_ ?_
  ·refine X0 3 rfl ?_
   obtain ⟨y1,hx1,hF⟩:=qc hF
   have g1:=qnp hx1
   refine r_v (qne qa g1 rfl rfl rfl rfl) rfl (zp2 rfl (qj (t:=26) hF rfl ?_ ?_))<;>intro hF
   ·refine X0 5 rfl ?_
    obtain ⟨y2,hx2,hF⟩:=qc hF
    have g2:=qnp hx2
    refine r_v (qne qa g2 rfl rfl rfl rfl) rfl (X0 5 rfl ?_)
    obtain rfl:=qb hF
    exact rG ⟨_,hK2,rfl,h⟩ rfl
   refine X0 7 rfl ?_
   obtain rfl:=qb hF
   exact rG ⟨_,hK2,rfl,h⟩ rfl
  rintro e2 w2 ⟨b2,hF,rfl,h⟩
  subst hKF1
  refine X0 5 rfl (qj (t:=34) hF rfl ?_ ?_)<;>intro hF
  ·refine X0 4 rfl (qj (t:=36) hF rfl ?_ ?_)<;>intro hF
   ·refine X0 10 rfl (qh rfl hF ?_ ?_)<;>intro hF
    ·refine X0 4 rfl ?_
     obtain rfl:=qb hF;replace hF:=hK1
     exact rb h hF rfl
    exact X0 7 rfl (rK ⟨_,hF,rfl,h⟩ rfl)
   refine X0 8 rfl (qb0 rfl rfl (X0 4 rfl ?_))
   obtain rfl:=qb hF;replace hF:=hK1
   exact rb h hF rfl
  exact X0 8 rfl (qbW rfl rfl (X0 7 rfl (rK ⟨_,hF,rfl,h⟩ rfl)))
 refine qq rfl ?_
 obtain rfl:=qb hF;replace hF:=hK1
 refine X0 6 rfl (qj (t:=45) hF rfl ?_ ?_)<;>intro hF
 ·exact X0 9 rfl (rb h hF rfl)
 exact X0 6 rfl (rb h hF rfl)
def qe2 (a_0:qw) (i2:Int) (y1:qaj):Nat→Int→Option (Flow (Int × Bool) Int)
 | 0,_=>none
 | n+1,i3 =>
  bif decide (i3<i2) then
   (idx a_0.Bd i3).bind fun y2 =>
   bif (y2.Bb.toList==y1.Bb.toList) then some (.ret (0,false)) else
   qe2 a_0 i2 y1 n (W64 (i3+1))
  else
   some (.nxt i3)
def qc4 (a_0:qw):Nat→Int→Int→Option (Flow (Int × Bool) (Int × Int))
 | 0,_,_=>none
 | n+1,i1,i2 =>
  bif decide (i2<(a_0.Bd.length:Int)) then
   (idx a_0.Bd i2).bind fun y1 =>
   (qe2 a_0 i2 y1 n 0).bind fun o=>match o with
   | .ret r=>some (.ret r)
   | .nxt _ =>
    (
     (qf7 n y1.Bb).bind fun r1 =>
     bif (!r1) then some true else
     (qau n y1.Bs 0 500).bind fun r2 =>
     some (!r2)).bind fun b4 =>
    bif b4 then some (.ret (0,false)) else
    (
     bif (i2==(W64 ((a_0.Bd.length:Int)-1))) then
      bif (y1.Bv != 2) then some true else
      bif (y1.Bs != 0) then some true else
      bif y1.Br then some true else
      bif decide (i2<(W64 ((a_0.Bd.length:Int)-1))) then some (y1.Bv != 1) else
      some false
     else
      bif decide (i2<(W64 ((a_0.Bd.length:Int)-1))) then some (y1.Bv != 1) else
      some false).bind fun b5 =>
    bif b5 then some (.ret (0,false)) else
    bif y1.Br then qc4 a_0 n (W64 (i1+1)) (W64 (i2+1)) else
    qc4 a_0 n i1 (W64 (i2+1))
  else
   some (.nxt (i1,i2))
def qkz (n:Nat) (a_0:qw):Option (Int × Bool) :=
 (
  bif decide ((a_0.Bd.length:Int)<2) then some true else
  some (decide ((a_0.Bd.length:Int) > 5))).bind fun b1 =>
 bif b1 then some (0,false) else
 (qc4 a_0 n 0 0).bind fun o=>match o with
 | .ret r=>some r
 | .nxt (i1,_) =>
  some (i1,true)
theorem qqj {a_0:qw} (ha1:Ro w a_0 cs1) {r:(Int × Bool)} (hF:qkz n a_0=some r):RetV Tryz.prog 260 [GoT.v qw cs1] w r:=by
 obtain ⟨p1,k1,p2,k2,p3,k3,rfl,s1,s2,s3⟩:=qad ha1
 refine zV 86 Tryz.func260 rfl fun h=>zSR (qv h rfl rfl fun w1 bb1 h=>X1 12 0 h rfl ?_)
 obtain ⟨KF3,hKF3,o5,hF,hK5⟩:=bindE hF
 refine qbe (fun e w'=>∃ (b1:Bool),KF3 b1=some r∧e=[(1,.pointer (some ⟨bb1,0,none⟩)),(4,.int .i64 (a_0.Bd.length:Int)),(17,.bool b1)]∧SH w w' [Ch.box bb1 (qee a_0 p1 p2 p3 k1 k2 k3) 168]) ?_ ?_
 ·refine X0 4 rfl (qj (t:=14) hF rfl ?_ ?_)<;>intro hF
  ·refine X0 4 rfl ?_
   obtain rfl:=qb hF
   exact rG ⟨_,hK5,rfl,h⟩ rfl
  refine X0 6 rfl ?_
  obtain rfl:=qb hF
  exact rG ⟨_,hK5,rfl,h⟩ rfl
 rintro e5 w11 ⟨b1,hF,rfl,h⟩
 subst hKF3
 refine qh rfl hF ?_ ?_<;>intro hF
 ·refine X0 5 rfl ?_
  obtain rfl:=qb hF
  exact qT qa (ρ:=(Int × Bool)) [GoT.v Int [.int .i64 0],GoT.v Bool [.bool false]] h ⟨rfl,rfl,trivial⟩ (PV.done h (qak h (qx (S:=fun _=>False) rfl) (qZ (qx (S:=fun _=>False) rfl)) (by rfl)))
 refine X0 10 rfl ?_
 obtain ⟨o1,hF,hK1⟩:=qc hF
 refine qm (rL (fun m e w'=>∃ (i1:Int) (i2:Int),qc4 a_0 m i1 i2=some o1∧e=[(1,.pointer (some ⟨bb1,0,none⟩)),(4,.int .i64 (a_0.Bd.length:Int)),(5,.int .i64 i1),(6,.int .i64 i2)]∧SH w w' [Ch.box bb1 (qee a_0 p1 p2 p3 k1 k2 k3) 168]) n ⟨_,_,hF,rfl,h⟩ rfl ?_)
 rintro m1 e1 w2 ⟨i1,i2,hF,rfl,h⟩
 rcases m1 with _|m1
 ·cases hF
 refine X0 7 rfl (qh rfl hF ?_ ?_)<;>intro hF
 ·refine X1 8 0 h rfl ?_
  obtain ⟨y1,hy1,hF,he1,b2,_,q1,cs2,hp1,hq1,hr1,hc3⟩:=s1.ix hF
  obtain rfl:=qaZ hr1
  refine zxe hp1 hq1 he1 rfl (zc 0 (hc3.below h.below) rfl (qp qa h rfl rfl rfl fun w3 bb2 h=>zs 0 h rfl fun w4 h=>X0 6 rfl ?_))
  obtain ⟨o2,hF,hK2⟩:=qc hF
  refine qm (rL (fun m e w'=>∃ (i3:Int),qe2 a_0 i2 y1 m i3=some o2∧e=[(1,.pointer (some ⟨bb1,0,none⟩)),(4,.int .i64 (a_0.Bd.length:Int)),(5,.int .i64 i1),(6,.int .i64 i2),(7,.pointer (some ⟨bb2,0,none⟩)),(8,.int .i64 i3)]∧SH w w' [Ch.box bb2 (qpA y1) 294,Ch.box bb1 (qee a_0 p1 p2 p3 k1 k2 k3) 168]) m1 ⟨_,hF,rfl,h⟩ rfl ?_)
  rintro m2 e2 w5 ⟨i3,hF,rfl,h⟩
  rcases m2 with _|m2
  ·cases hF
  refine X0 7 rfl (qh rfl hF ?_ ?_)<;>intro hF
  ·refine X0 4 rfl (rD (Y1 2 1 h rfl ?_))
   refine zd1 rfl ?_
   obtain ⟨y2,hy2,hF,he2,b3,_,q2,cs3,hp2,hq2,hr2,hc5⟩:=s1.ix hF
   obtain rfl:=qaZ hr2
   refine zdxe hp2 hq2 he2 rfl (zd1 rfl (zdc 0 (hc5.below h.below) rfl (Y1 2 0 h rfl ?_)))
   refine zd1 rfl (dN h fun w6 h=>qh rfl hF ?_ ?_)<;>intro hF
   ·refine X0 5 rfl ?_
    obtain rfl:=qb hF;replace hF:=hK2
    obtain rfl:=qb hF;replace hF:=hK1
    obtain rfl:=qb hF
    exact qT qa (ρ:=(Int × Bool)) [GoT.v Int [.int .i64 0],GoT.v Bool [.bool false]] h ⟨rfl,rfl,trivial⟩ (PV.done h (qak h (qx (S:=fun _=>False) rfl) (qZ (qx (S:=fun _=>False) rfl)) (by rfl)))
   exact X0 7 rfl (rK ⟨_,hF,rfl,h⟩ rfl)
  refine qq rfl ?_
  obtain rfl:=qb hF;replace hF:=hK2
  refine zSS ?_
  obtain ⟨KF2,hKF2,o4,hF,hK4⟩:=bindE hF
  refine qbe (fun e w'=>∃ (b4:Bool),KF2 b4=some o1∧e=[(1,.pointer (some ⟨bb1,0,none⟩)),(4,.int .i64 (a_0.Bd.length:Int)),(5,.int .i64 i1),(6,.int .i64 i2),(7,.pointer (some ⟨bb2,0,none⟩)),(51,.bool b4)]∧SH w w' [Ch.box bb2 (qpA y1) 294,Ch.box bb1 (qee a_0 p1 p2 p3 k1 k2 k3) 168]) ?_ ?_
  ·refine X1 3 0 h rfl (zcB h hF qh1 rfl fun r1 w8 h hF=>zp2 rfl (qj (t:=46) hF rfl ?_ ?_))<;>intro hF
   ·refine X0 6 rfl ?_
    obtain rfl:=qb hF
    exact rG ⟨_,hK4,rfl,h⟩ rfl
   refine X1 5 0 h rfl (zcB h hF qai rfl fun r2 w9 h hF=>X0 4 rfl ?_)
   obtain rfl:=qb hF
   exact rG ⟨_,hK4,rfl,h⟩ rfl
  rintro e4 w10 ⟨b4,hF,rfl,h⟩
  subst hKF2
  refine qh rfl hF ?_ ?_<;>intro hF
  ·refine X0 5 rfl ?_
   obtain rfl:=qb hF;replace hF:=hK1
   obtain rfl:=qb hF
   exact qT qa (ρ:=(Int × Bool)) [GoT.v Int [.int .i64 0],GoT.v Bool [.bool false]] h ⟨rfl,rfl,trivial⟩ (PV.done h (qak h (qx (S:=fun _=>False) rfl) (qZ (qx (S:=fun _=>False) rfl)) (by rfl)))
  refine zKSS ?_
  obtain ⟨KF1,hKF1,o3,hF,hK3⟩:=bindE hF
  refine qbe (fun e w'=>∃ (b5:Bool),KF1 b5=some o1∧e=[(1,.pointer (some ⟨bb1,0,none⟩)),(4,.int .i64 (a_0.Bd.length:Int)),(5,.int .i64 i1),(6,.int .i64 i2),(7,.pointer (some ⟨bb2,0,none⟩)),(80,.bool b5)]∧SH w w' [Ch.box bb2 (qpA y1) 294,Ch.box bb1 (qee a_0 p1 p2 p3 k1 k2 k3) 168]) ?_ ?_
  ·refine X0 6 rfl (qj (t:=56) hF rfl ?_ ?_)<;>intro hF
   ·refine X1 8 0 h rfl (qj (t:=60) hF rfl ?_ ?_)<;>intro hF
    ·refine X0 24 rfl ?_
     obtain rfl:=qb hF
     exact rG ⟨_,hK3,rfl,h⟩ rfl
    refine X1 10 0 h rfl (qj (t:=65) hF rfl ?_ ?_)<;>intro hF
    ·refine X0 17 rfl ?_
     obtain rfl:=qb hF
     exact rG ⟨_,hK3,rfl,h⟩ rfl
    refine X1 8 0 h rfl (qj (t:=70) hF rfl ?_ ?_)<;>intro hF
    ·refine X0 11 rfl ?_
     obtain rfl:=qb hF
     exact rG ⟨_,hK3,rfl,h⟩ rfl
    refine X0 10 rfl (qj (t:=75) hF rfl ?_ ?_)<;>intro hF
    ·refine X1 10 0 h rfl ?_
     obtain rfl:=qb hF
     exact rG ⟨_,hK3,rfl,h⟩ rfl
    refine X0 7 rfl ?_
    obtain rfl:=qb hF
    exact rG ⟨_,hK3,rfl,h⟩ rfl
   refine X0 24 rfl (qj (t:=75) hF rfl ?_ ?_)<;>intro hF
   ·refine X1 10 0 h rfl ?_
    obtain rfl:=qb hF
    exact rG ⟨_,hK3,rfl,h⟩ rfl
   refine X0 7 rfl ?_
   obtain rfl:=qb hF
   exact rG ⟨_,hK3,rfl,h⟩ rfl
  rintro e3 w7 ⟨b5,hF,rfl,h⟩
  subst hKF1
  refine qh rfl hF ?_ ?_<;>intro hF
  ·refine X0 5 rfl ?_
   obtain rfl:=qb hF;replace hF:=hK1
   obtain rfl:=qb hF
   exact qT qa (ρ:=(Int × Bool)) [GoT.v Int [.int .i64 0],GoT.v Bool [.bool false]] h ⟨rfl,rfl,trivial⟩ (PV.done h (qak h (qx (S:=fun _=>False) rfl) (qZ (qx (S:=fun _=>False) rfl)) (by rfl)))
  refine X1 6 0 h rfl (qh rfl hF ?_ ?_)<;>intro hF
  ·refine X0 11 rfl ?_
   replace h:=h.pick [1] rfl
   exact rK ⟨_,_,hF,rfl,h⟩ rfl
  refine X0 7 rfl ?_
  replace h:=h.pick [1] rfl
  exact rK ⟨_,_,hF,rfl,h⟩ rfl
 refine qq rfl ?_
 obtain rfl:=qb hF;replace hF:=hK1
 refine X0 6 rfl ?_
 obtain rfl:=qb hF
 exact qT qa (ρ:=(Int × Bool)) [GoT.v Int [.int .i64 i1],GoT.v Bool [.bool true]] h ⟨rfl,rfl,trivial⟩ (PV.done h (qak h (qx (S:=fun _=>False) rfl) (qZ (qx (S:=fun _=>False) rfl)) (by rfl)))
def qdU (list:(List Int)):Nat→Int→Option (Flow Bool Int)
 | 0,_=>none
 | n+1,i1 =>
  bif decide (i1<(list.length:Int)) then
   (idx list i1).bind fun y1 =>
   (qau n y1 0 100000).bind fun r1 =>
   bif (!r1) then some (.ret false) else
   bif decide (i1 > 0) then
    (idx list (W64 (i1-1))).bind fun y2 =>
    (idx list i1).bind fun y3 =>
    bif decide (y2 ≥ y3) then some (.ret false) else
    qdU list n (W64 (i1+1))
   else
    qdU list n (W64 (i1+1))
  else
   some (.nxt i1)
def qiZ (n:Nat) (list:(List Int)):Option Bool :=
 (qdU list n 0).bind fun o=>match o with
 | .ret r=>some r
 | .nxt _ =>
  bif decide ((list.length:Int) ≥ 1) then some (decide ((list.length:Int)≤4)) else
  some false
theorem qmU {list:(List Int)} (ha1:Ro w list cs1) {r:Bool} (hF:qiZ n list=some r):RetV Tryz.prog 310 [GoT.v (List Int) cs1] w r:=by
 obtain ⟨p1,k1,rfl,s1⟩:=ha1
 refine zV 40 Tryz.func310 rfl fun h=>X0 9 rfl ?_
 obtain ⟨o1,hF,hK1⟩:=qc hF
 refine qm (rL (fun m e w'=>∃ (i1:Int),qdU list m i1=some o1∧e=[(0,.slice p1 list.length k1),(3,.int .i64 i1)]∧SH w w' []) n ⟨_,hF,rfl,h⟩ rfl ?_)
 rintro m1 e1 w1 ⟨i1,hF,rfl,h⟩
 rcases m1 with _|m1
 ·cases hF
 refine X0 8 rfl (qh rfl hF ?_ ?_)<;>intro hF
 ·refine X0 4 rfl (rD (zd2 rfl ?_))
  obtain ⟨y1,hy1,hF,he1,b1,_,q1,cs2,hp1,hq1,rfl,hc2⟩:=s1.ix hF
  refine zdxe hp1 hq1 he1 rfl (zdc 0 (hc2.below h.below) rfl ?_)
  obtain ⟨r1,hr2,hF⟩:=qc hF
  refine qa0 r1 (vsB _) (cB 63 rfl) (fun _ hb=>qai  hr2) rfl rfl rfl rfl (zd2 rfl (qaT (t:=16) hF rfl ?_ ?_))<;>intro hF
  ·refine Y0 15 rfl (dN h fun w2 h=>qb0 rfl rfl (X0 4 rfl ?_))
   obtain rfl:=qb hF;replace hF:=hK1
   exact rb h hF rfl
  refine Y0 6 rfl (qaT (t:=19) hF rfl ?_ ?_)<;>intro hF
  ·refine Y0 7 rfl ?_
   obtain ⟨y2,hy2,hF,he2,b2,_,q2,cs3,hp2,hq2,rfl,hc3⟩:=s1.ix hF
   refine zdxe hp2 hq2 he2 rfl (Y0 1 rfl (zdc 0 (hc3.below h.below) rfl (Y0 5 rfl ?_)))
   obtain ⟨y3,hy3,hF,he3,b3,_,q3,cs4,hp3,hq3,rfl,hc4⟩:=s1.ix hF
   refine zdxe hp3 hq3 he3 rfl (Y0 1 rfl (zdc 0 (hc4.below h.below) rfl (Y0 5 rfl (dN h fun w3 h=>qh rfl hF ?_ ?_))))<;>intro hF
   ·refine X0 4 rfl ?_
    obtain rfl:=qb hF;replace hF:=hK1
    exact rb h hF rfl
   exact X0 7 rfl (rK ⟨_,hF,rfl,h⟩ rfl)
  exact Y0 13 rfl (dN h fun w4 h=>qbW rfl rfl (X0 7 rfl (rK ⟨_,hF,rfl,h⟩ rfl)))
 refine qq rfl ?_
 obtain rfl:=qb hF;replace hF:=hK1
 refine X0 6 rfl (qj (t:=35) hF rfl ?_ ?_)<;>intro hF
 ·exact X0 9 rfl (rb h hF rfl)
 exact X0 6 rfl (rb h hF rfl)
def qe3 (t:qr):Nat→Int→Option (Flow Bool Int)
 | 0,_=>none
 | n+1,i1 =>
  bif decide (i1<(t.Bh.length:Int)) then
   (idx t.Bh i1).bind fun y1 =>
   (qau n y1 (-1000000) 1000000).bind fun r1 =>
   bif (!r1) then some (.ret false) else
   qe3 t n (W64 (i1+1))
  else
   some (.nxt i1)
def qku (n:Nat) (t:qr):Option Bool :=
 (
  (qiZ n t.Bm).bind fun r2 =>
  bif (!r2) then some true else
  (qiZ n t.Bj).bind fun r3 =>
  bif (!r3) then some true else
  some ((t.Bh.length:Int) != (W64 ((t.Bm.length:Int)*(t.Bj.length:Int))))).bind fun b1 =>
 bif b1 then some false else
 (qe3 t n 0).bind fun o=>match o with
 | .ret r=>some r
 | .nxt _ =>
  some true
theorem qqA {t:qr} (ha1:Ro w t cs1) {r:Bool} (hF:qku n t=some r):RetV Tryz.prog 300 [GoT.v qr cs1] w r:=by
 obtain ⟨p1,k1,p2,k2,p3,k3,rfl,s1,s2,s3⟩:=qaE ha1
 refine zV 41 Tryz.func300 rfl fun h=>zSR (qv h rfl rfl fun w1 bb1 h=>X0 4 rfl ?_)
 obtain ⟨KF1,hKF1,o2,hF,hK2⟩:=bindE hF
 refine qbe (fun e w'=>∃ (b1:Bool),KF1 b1=some r∧e=[(1,.pointer (some ⟨bb1,0,none⟩)),(26,.bool b1)]∧SH w w' [Ch.box bb1 (qgV t p1 p2 p3 k1 k2 k3) 206]) ?_ ?_
 ·refine X1 3 0 h rfl (zcB h hF (qmU ⟨_,_,rfl,(h.oldS s1)⟩) rfl fun r2 w4 h hF=>zp2 rfl (qj (t:=8) hF rfl ?_ ?_))<;>intro hF
  ·refine X0 19 rfl ?_
   obtain rfl:=qb hF
   exact rG ⟨_,hK2,rfl,h⟩ rfl
  refine X1 5 0 h rfl (zcB h hF (qmU ⟨_,_,rfl,(h.oldS s2)⟩) rfl fun r3 w5 h hF=>X0 4 rfl (qj (t:=14) hF rfl ?_ ?_))<;>intro hF
  ·refine X0 13 rfl ?_
   obtain rfl:=qb hF
   exact rG ⟨_,hK2,rfl,h⟩ rfl
  refine X3 24 0 0 0 h rfl ?_
  obtain rfl:=qb hF
  exact rG ⟨_,hK2,rfl,h⟩ rfl
 rintro e2 w6 ⟨b1,hF,rfl,h⟩
 subst hKF1
 refine qh rfl hF ?_ ?_<;>intro hF
 ·exact X0 4 rfl (rb h hF rfl)
 refine X0 6 rfl ?_
 obtain ⟨o1,hF,hK1⟩:=qc hF
 refine qm (rL (fun m e w'=>∃ (i1:Int),qe3 t m i1=some o1∧e=[(1,.pointer (some ⟨bb1,0,none⟩)),(3,.int .i64 i1)]∧SH w w' [Ch.box bb1 (qgV t p1 p2 p3 k1 k2 k3) 206]) n ⟨_,hF,rfl,h⟩ rfl ?_)
 rintro m1 e1 w2 ⟨i1,hF,rfl,h⟩
 rcases m1 with _|m1
 ·cases hF
 refine X1 9 0 h rfl (qh rfl hF ?_ ?_)<;>intro hF
 ·refine X1 8 0 h rfl ?_
  obtain ⟨y1,hy1,hF,he1,b2,_,q1,cs2,hp1,hq1,rfl,hc3⟩:=s3.ix hF
  refine zxe hp1 hq1 he1 rfl (zc 0 (hc3.below h.below) rfl (zcB h hF qai rfl fun r1 w3 h hF=>X0 2 rfl (qh rfl hF ?_ ?_)))<;>intro hF
  ·refine X0 4 rfl ?_
   obtain rfl:=qb hF;replace hF:=hK1
   exact rb h hF rfl
  exact X0 7 rfl (rK ⟨_,hF,rfl,h⟩ rfl)
 refine qq rfl ?_
 obtain rfl:=qb hF;replace hF:=hK1
 exact X0 4 rfl (rb h hF rfl)
def qcZ (t:qr):Nat→Int→Int→Int→Option (Int × Int × Int)
 | 0,_,_,_=>none
 | n+1,i1,i2,i3 =>
  bif decide (i3<(t.Bh.length:Int)) then
   (idx t.Bh i3).bind fun y3 =>
   (idx t.Bh i3).bind fun y4 =>
   qcZ t n (if y3<i1 then y3 else i1) (if y4 > i2 then y4 else i2) (W64 (i3+1))
  else
   some (i1,i2,i3)
def qhi (n:Nat) (t:qr):Option (qf × Int) :=
 (qku n t).bind fun r1 =>
 bif (!r1) then some ((⟨0,0⟩:qf),1) else
 (idx t.Bh 0).bind fun y1 =>
 (idx t.Bh 0).bind fun y2 =>
 (qcZ t n y1 y2 1).bind fun o=>match o with
 | (i1,i2,_) =>
  some ((⟨i1,i2⟩:qf),0)
theorem qob {t:qr} (ha1:Ro w t cs1) {r:(qf × Int)} (hF:qhi n t=some r):RetV Tryz.prog 289 [GoT.v qr cs1] w r:=by
 obtain ⟨p1,k1,p2,k2,p3,k3,rfl,s1,s2,s3⟩:=qaE ha1
 refine zV 45 Tryz.func289 rfl fun h=>zSR (qv h rfl rfl fun w1 bb1 h=>qp qa h rfl rfl rfl fun w2 bb2 h=>X1 6 1 h rfl (zcB h hF (qqA (h.old ha1)) rfl fun r1 w3 h hF=>X0 2 rfl (qh rfl hF ?_ ?_)))<;>intro hF
 ·refine zSR (r_v (qaa qa [] [] rfl rfl rfl rfl rfl rfl rfl rfl) rfl (zs 0 h rfl fun w4 h=>X0 2 rfl ?_))
  obtain rfl:=qb hF
  exact qT qa (ρ:=(qf × Int)) [GoT.v qf [.int .i64 0,.int .i64 0],GoT.v Int [.int .i64 1]] h ⟨⟨_,_,_,rfl,rfl,h.box 0 rfl,rfl⟩,rfl,trivial⟩ (PV.done h (qak h (qx (S:=fun _=>False) (qA (⟨0,0⟩:qf))) (qZ (qx (S:=fun _=>False) rfl)) (by rfl)))
 refine zKS (rA [] [1] h rfl fun w5 h=>M1 3 [0,1] 0 (h.pick [1] rfl) rfl ?_)
 obtain ⟨y1,hy1,hF,he1,b1,_,q1,cs2,hp1,hq1,rfl,hc2⟩:=s3.ix hF
 refine Ae 2 7 hp1 hq1 he1 (h.pick [1] rfl) rfl (Al 3 15 0 hc2 (h.pick [1] rfl) rfl (M1 63 [4,5] 0 (h.pick [1] rfl) rfl ?_))
 obtain ⟨y2,hy2,hF,he2,b2,_,q2,cs3,hp2,hq2,rfl,hc3⟩:=s3.ix hF
 refine Ae 6 127 hp2 hq2 he2 (h.pick [1] rfl) rfl (Al 7 255 0 hc3 (h.pick [1] rfl) rfl (Aw 8 511 (fun w' hw=>qaa qa [0,1] [.tmp 13,.tmp 17] rfl rfl rfl rfl rfl rfl rfl rfl) (h.pick [1] rfl) rfl ?_))
 refine Ao 9 1023 rfl (qp qa h rfl rfl rfl fun w6 bb3 h=>Ag (h.pick [2] rfl) (Ao 10 2047 rfl (zs 0 h rfl fun w7 h=>Ag (h.pick [2] rfl) (Ad (X0 5 rfl ?_)))))
 obtain ⟨o1,hF,hK1⟩:=qc hF
 refine qm (rL (fun m e w'=>∃ (i1:Int) (i2:Int) (i3:Int),qcZ t m i1 i2 i3=some o1∧e=[(1,.pointer (some ⟨bb1,0,none⟩)),(2,.pointer (some ⟨bb2,0,none⟩)),(4,.pointer (some ⟨bb3,0,none⟩)),(5,.int .i64 i3)]∧SH w w' [Ch.box bb3 [.int .i64 i1,.int .i64 i2] 86,Ch.box bb2 [.int .i64 0,.int .i64 0] 86,Ch.box bb1 (qgV t p1 p2 p3 k1 k2 k3) 206]) n ⟨_,_,_,hF,rfl,h⟩ rfl ?_)
 rintro m1 e1 w8 ⟨i1,i2,i3,hF,rfl,h⟩
 rcases m1 with _|m1
 ·cases hF
 refine X1 9 2 h rfl (qh rfl hF ?_ ?_)<;>intro hF
 ·refine X0 4 rfl (rA [9] [0,2] h rfl fun w9 h=>M2 31 [0,1,2,3,4] 0 1 (h.pick [0,2] rfl) rfl ?_)
  obtain ⟨y3,hy3,hF,he3,b3,_,q3,cs4,hp3,hq3,rfl,hc5⟩:=s3.ix hF
  refine Ae 5 63 hp3 hq3 he3 (h.pick [0,2] rfl) rfl (Al 6 127 0 hc5 (h.pick [0,2] rfl) rfl (M0 511 [7,8] (h.pick [0,2] rfl) rfl (Ao 9 1023 rfl (zs 0 h rfl fun w10 h=>qbE (fun hs=>absurd (hs 9 (by decide)) (by decide)) (Ad (rA [9] [0,2] h rfl fun w11 h=>M2 31 [0,1,2,3,4] 0 1 (h.pick [0,2] rfl) rfl ?_))))))
  obtain ⟨y4,hy4,hF,he4,b4,_,q4,cs5,hp4,hq4,rfl,hc6⟩:=s3.ix hF
  exact Ae 5 63 hp4 hq4 he4 (h.pick [0,2] rfl) rfl (Al 6 127 0 hc6 (h.pick [0,2] rfl) rfl (M0 511 [7,8] (h.pick [0,2] rfl) rfl (Ao 9 1023 rfl (zs 0 h rfl fun w12 h=>qbE (fun hs=>absurd (hs 9 (by decide)) (by decide)) (Ad (X0 6 rfl (rK ⟨_,_,_,hF,rfl,h⟩ rfl)))))))
 refine qq rfl ?_
 obtain rfl:=qb hF;replace hF:=hK1
 refine X1 3 0 h rfl (zs 1 h rfl fun w13 h=>X0 2 rfl ?_)
 obtain rfl:=qb hF
 exact qT qa (ρ:=(qf × Int)) [GoT.v qf [.int .i64 i1,.int .i64 i2],GoT.v Int [.int .i64 0]] h ⟨⟨_,_,_,rfl,rfl,h.box 1 rfl,rfl⟩,rfl,trivial⟩ (PV.done h (qak h (qx (S:=fun _=>False) (qA (⟨i1,i2⟩:qf))) (qZ (qx (S:=fun _=>False) rfl)) (by rfl)))
def qcI (list:(List qr)) (positive:Bool):Nat→Int→Option (Flow Bool Int)
 | 0,_=>none
 | n+1,i1 =>
  bif decide (i1<2) then
   (idx list i1).bind fun y1 =>
   (qhi n y1).bind fun o=>match o with
    | (r2,r3) =>
     bif (r3 != 0) then some (.ret false) else
     bif positive then
      bif decide (r2.Ap<0) then some (.ret false) else
      qcI list positive n (W64 (i1+1))
     else
      qcI list positive n (W64 (i1+1))
  else
   some (.nxt i1)
def qdz (n:Nat) (list:(List qr)) (positive:Bool):Option Bool :=
 bif ((list.length:Int) != 2) then some false else
 (qcI list positive n 0).bind fun o=>match o with
 | .ret r=>some r
 | .nxt _ =>
  some true
theorem qfc {list:(List qr)} {positive:Bool} (ha1:Ro w list cs1) {r:Bool} (hF:qdz n list positive=some r):RetV Tryz.prog 279 [GoT.v (List qr) cs1,.bool positive] w r:=by
 obtain ⟨p1,k1,rfl,s1⟩:=ha1
 refine zV 33 Tryz.func279 rfl fun h=>X0 11 rfl (qh rfl hF ?_ ?_)<;>intro hF
 ·exact X0 4 rfl (rb h hF rfl)
 refine X0 6 rfl ?_
 obtain ⟨o1,hF,hK1⟩:=qc hF
 refine qm (rL (fun m e w'=>∃ (i1:Int),qcI list positive m i1=some o1∧e=[(0,.slice p1 list.length k1),(1,.bool positive),(5,.int .i64 i1)]∧SH w w' []) n ⟨_,hF,rfl,h⟩ rfl ?_)
 rintro m1 e1 w1 ⟨i1,hF,rfl,h⟩
 rcases m1 with _|m1
 ·cases hF
 refine X0 6 rfl (qh rfl hF ?_ ?_)<;>intro hF
 ·refine X0 7 rfl ?_
  obtain ⟨y1,hy1,hF,he1,b1,_,q1,cs2,hp1,hq1,hr1,hc3⟩:=s1.ix hF
  obtain ⟨p2,k2,p3,k3,p4,k4,rfl,s2,s3,s4⟩:=qaE hr1
  refine zxe hp1 hq1 he1 rfl (zc 0 (hc3.below h.below) rfl ?_)
  obtain ⟨r1,hr2,hF⟩:=qc hF
  obtain ⟨r2,r3⟩:=r1
  refine qa5 (r2,r3) h (cB 289 rfl) (qob (qfs y1 (h.oldS s2) (h.oldS s3) (h.oldS s4)) hr2) rfl rfl rfl rfl fun w2 S1 us1 hv1 hr3=>?_
  obtain ⟨S2,S3,cs3,us2,rfl,hv2,hr4⟩:=hv1.cons hr3
  obtain rfl:=qz (hv2.sh.own 0 rfl)
  obtain ⟨rfl,h⟩:=hv2.lastI hr4
  refine zp3 rfl (qp qa h rfl rfl rfl fun w3 bb1 h=>zs 0 h rfl fun w4 h=>X0 7 rfl (qj (t:=25) hF rfl ?_ ?_))<;>intro hF
  ·refine X0 8 rfl (qb0 rfl rfl (X0 4 rfl ?_))
   obtain rfl:=qb hF;replace hF:=hK1
   exact rb h hF rfl
  refine X0 4 rfl (qj (t:=27) hF rfl ?_ ?_)<;>intro hF
  ·refine X1 10 0 h rfl (qh rfl hF ?_ ?_)<;>intro hF
   ·refine X0 4 rfl ?_
    obtain rfl:=qb hF;replace hF:=hK1
    exact rb h hF rfl
   refine X0 7 rfl ?_
   replace h:=h.pick [] rfl
   exact rK ⟨_,hF,rfl,h⟩ rfl
  refine X0 7 rfl (qbW rfl rfl (X0 7 rfl ?_))
  replace h:=h.pick [] rfl
  exact rK ⟨_,hF,rfl,h⟩ rfl
 refine qq rfl ?_
 obtain rfl:=qb hF;replace hF:=hK1
 exact X0 4 rfl (rb h hF rfl)
def qlJ (n:Nat) (a_0:qw) (a_1:qG):Option Bool :=
 (
  (qau n a_1.Bk 0 (W64 ((W64 ((a_0.Bd.length:Int)-1))-1))).bind fun r7 =>
  bif (!r7) then some true else
  (qau n a_1.To 0 (W64 ((a_0.Bd.length:Int)-1))).bind fun r8 =>
  some (!r8)).bind fun b1 =>
 bif b1 then some false else
 (idx a_0.Bd a_1.Bk).bind fun y1 =>
 bif (a_1.Bf==1) then
  bif (!y1.Br) then
   bif (a_1.To==(W64 ((a_0.Bd.length:Int)-1))) then
    (qau n a_1.Bp 1 3).bind fun r1 =>
    bif r1 then
     (qdz n a_1.Bn true).bind fun r2 =>
     bif r2 then
      (qdz n a_1.Bc true).bind fun r3 =>
      some r3
     else
      some false
    else
     some false
   else
    some false
  else
   some false
 else
  (
   bif (a_1.Bf==2) then some (a_1.Bf==2) else
   some (a_1.Bf==3)).bind fun b3 =>
  bif b3 then
   bif y1.Br then
    bif (a_1.To==(W64 ((a_0.Bd.length:Int)-1))) then
     bif (a_1.Bp==0) then
      (qdz n a_1.Bn true).bind fun r4 =>
      bif r4 then
       (qdz n a_1.Bc true).bind fun r5 =>
       some r5
      else
       some false
     else
      some false
    else
     some false
   else
    some false
  else
   (
    bif (a_1.Bf==4) then some (a_1.Bf==4) else
    some (a_1.Bf==5)).bind fun b4 =>
   bif b4 then
    bif y1.Br then
     bif decide (a_1.To<(W64 ((a_0.Bd.length:Int)-1))) then
      (idx a_0.Bd a_1.To).bind fun y2 =>
      bif (!y2.Br) then
       bif (a_1.Bp==0) then
        (qdz n a_1.Bn false).bind fun r6 =>
        bif r6 then some ((a_1.Bc.length:Int)==0) else
        some false
       else
        some false
      else
       some false
     else
      some false
    else
     some false
   else
    some false
theorem qrt {a_0:qw} {a_1:qG} (ha1:Ro w a_0 cs1) (ha2:Ro w a_1 cs2) {r:Bool} (hF:qlJ n a_0 a_1=some r):RetV Tryz.prog 261 [GoT.v qw cs1,GoT.v qG cs2] w r:=by
 obtain ⟨p1,k1,p2,k2,p3,k3,rfl,s1,s2,s3⟩:=qad ha1
 obtain ⟨p4,k4,p5,k5,rfl,s4,s5⟩:=qae ha2
 refine zV 119 Tryz.func261 rfl fun h=>zSR (qv h rfl rfl fun w1 bb1 h=>qv h rfl rfl fun w2 bb2 h=>X1 12 1 h rfl ?_)
 obtain ⟨KF3,hKF3,o3,hF,hK3⟩:=bindE hF
 refine qbe (fun e w'=>∃ (b1:Bool),KF3 b1=some r∧e=[(2,.pointer (some ⟨bb1,0,none⟩)),(3,.pointer (some ⟨bb2,0,none⟩)),(5,.int .i64 (W64 ((a_0.Bd.length:Int)-1))),(23,.bool b1)]∧SH w w' [Ch.box bb2 (qg6 a_1 p4 p5 k4 k5) 173,Ch.box bb1 (qee a_0 p1 p2 p3 k1 k2 k3) 168]) ?_ ?_
 ·refine X1 5 0 h rfl (zcB h hF qai rfl fun r7 w11 h hF=>zp2 rfl (qj (t:=17) hF rfl ?_ ?_))<;>intro hF
  ·refine X0 7 rfl ?_
   obtain rfl:=qb hF
   exact rG ⟨_,hK3,rfl,h⟩ rfl
  refine X1 7 0 h rfl (zcB h hF qai rfl fun r8 w12 h hF=>X0 4 rfl ?_)
  obtain rfl:=qb hF
  exact rG ⟨_,hK3,rfl,h⟩ rfl
 rintro e3 w13 ⟨b1,hF,rfl,h⟩
 subst hKF3
 refine qh rfl hF ?_ ?_<;>intro hF
 ·exact X0 4 rfl (rb h hF rfl)
 refine X2 7 1 0 h rfl ?_
 obtain ⟨y1,hy1,hF,he1,b2,_,q1,cs3,hp1,hq1,hr1,hc2⟩:=s1.ix hF
 obtain rfl:=qaZ hr1
 refine zxe hp1 hq1 he1 rfl (zp1 rfl (zc 3 (hc2.below h.below) rfl (X1 14 0 h rfl (qh rfl hF ?_ ?_))))<;>intro hF
 ·refine X0 5 rfl (qj (t:=37) hF rfl ?_ ?_)<;>intro hF
  ·refine X1 10 0 h rfl (qj (t:=43) hF rfl ?_ ?_)<;>intro hF
   ·refine X1 5 0 h rfl (zcB h hF qai rfl fun r1 w3 h hF=>zp2 rfl (qj (t:=48) hF rfl ?_ ?_))<;>intro hF
    ·refine X1 5 0 h rfl (zcB h hF (qfc ⟨_,_,rfl,(h.oldS s4)⟩) rfl fun r2 w4 h hF=>zp2 rfl (qj (t:=53) hF rfl ?_ ?_))<;>intro hF
     ·exact X1 5 0 h rfl (zcB h hF (qfc ⟨_,_,rfl,(h.oldS s5)⟩) rfl fun r3 w5 h hF=>X0 3 rfl (rb h hF rfl))
     exact X0 6 rfl (rb h hF rfl)
    exact X0 11 rfl (rb h hF rfl)
   exact X0 16 rfl (rb h hF rfl)
  exact X0 22 rfl (rb h hF rfl)
 refine X0 6 rfl ?_
 obtain ⟨KF2,hKF2,o2,hF,hK2⟩:=bindE hF
 refine qbe (fun e w'=>∃ (b3:Bool),KF2 b3=some r∧e=[(2,.pointer (some ⟨bb1,0,none⟩)),(3,.pointer (some ⟨bb2,0,none⟩)),(5,.int .i64 (W64 ((a_0.Bd.length:Int)-1))),(6,.bool y1.Br),(32,.int .i64 a_1.Bf),(58,.bool b3)]∧SH w w' [Ch.box bb2 (qg6 a_1 p4 p5 k4 k5) 173,Ch.box bb1 (qee a_0 p1 p2 p3 k1 k2 k3) 168]) ?_ ?_
 ·refine qh rfl hF ?_ ?_<;>intro hF
  ·refine qih ?_
   obtain rfl:=qb hF
   exact rG ⟨_,hK2,rfl,h⟩ rfl
  refine X0 4 rfl ?_
  obtain rfl:=qb hF
  exact rG ⟨_,hK2,rfl,h⟩ rfl
 rintro e2 w10 ⟨b3,hF,rfl,h⟩
 subst hKF2
 refine qh rfl hF ?_ ?_<;>intro hF
 ·refine X0 4 rfl (qj (t:=62) hF rfl ?_ ?_)<;>intro hF
  ·refine X1 10 0 h rfl (qj (t:=68) hF rfl ?_ ?_)<;>intro hF
   ·refine X1 8 0 h rfl (qj (t:=73) hF rfl ?_ ?_)<;>intro hF
    ·refine X1 5 0 h rfl (zcB h hF (qfc ⟨_,_,rfl,(h.oldS s4)⟩) rfl fun r4 w6 h hF=>zp2 rfl (qj (t:=78) hF rfl ?_ ?_))<;>intro hF
     ·exact X1 5 0 h rfl (zcB h hF (qfc ⟨_,_,rfl,(h.oldS s5)⟩) rfl fun r5 w7 h hF=>X0 3 rfl (rb h hF rfl))
     exact X0 6 rfl (rb h hF rfl)
    exact X0 11 rfl (rb h hF rfl)
   exact X0 16 rfl (rb h hF rfl)
  exact X0 22 rfl (rb h hF rfl)
 refine X0 6 rfl ?_
 obtain ⟨KF1,hKF1,o1,hF,hK1⟩:=bindE hF
 refine qbe (fun e w'=>∃ (b4:Bool),KF1 b4=some r∧e=[(2,.pointer (some ⟨bb1,0,none⟩)),(3,.pointer (some ⟨bb2,0,none⟩)),(5,.int .i64 (W64 ((a_0.Bd.length:Int)-1))),(6,.bool y1.Br),(83,.bool b4)]∧SH w w' [Ch.box bb2 (qg6 a_1 p4 p5 k4 k5) 173,Ch.box bb1 (qee a_0 p1 p2 p3 k1 k2 k3) 168]) ?_ ?_
 ·refine qh rfl hF ?_ ?_<;>intro hF
  ·refine qih ?_
   obtain rfl:=qb hF
   exact rG ⟨_,hK1,rfl,h⟩ rfl
  refine X0 4 rfl ?_
  obtain rfl:=qb hF
  exact rG ⟨_,hK1,rfl,h⟩ rfl
 rintro e1 w9 ⟨b4,hF,rfl,h⟩
 subst hKF1
 refine qh rfl hF ?_ ?_<;>intro hF
 ·refine X0 4 rfl (qj (t:=87) hF rfl ?_ ?_)<;>intro hF
  ·refine X1 10 0 h rfl (qj (t:=93) hF rfl ?_ ?_)<;>intro hF
   ·refine X2 9 1 0 h rfl ?_
    obtain ⟨y2,hy2,hF,he2,b5,_,q2,cs4,hp2,hq2,hr7,hc6⟩:=s1.ix hF
    obtain rfl:=qaZ hr7
    refine zxe hp2 hq2 he2 rfl (X0 3 rfl (zc 3 (hc6.below h.below) rfl (X0 4 rfl (qj (t:=103) hF rfl ?_ ?_))))<;>intro hF
    ·refine X1 8 0 h rfl (qj (t:=108) hF rfl ?_ ?_)<;>intro hF
     ·refine X1 5 0 h rfl (zcB h hF (qfc ⟨_,_,rfl,(h.oldS s4)⟩) rfl fun r6 w8 h hF=>zp2 rfl (qj (t:=113) hF rfl ?_ ?_))<;>intro hF
      ·exact X1 11 0 h rfl (rb h hF rfl)
      exact X0 7 rfl (rb h hF rfl)
     exact X0 12 rfl (rb h hF rfl)
    exact X0 17 rfl (rb h hF rfl)
   exact X0 27 rfl (rb h hF rfl)
  exact X0 33 rfl (rb h hF rfl)
 exact X0 6 rfl (rb h hF rfl)
def qdp (c:qw):Nat→(List Int)→Int→Option ((List Int) × Int)
 | 0,_,_=>none
 | n+1,x2,i1 =>
  bif decide (i1<(c.Au.length:Int)) then
   (idx c.Au i1).bind fun y1 =>
   (idx x2 y1.Bf).bind fun y2 =>
   (idx x2 y1.Bf).bind fun _ =>
   qdp c n (setS x2 y1.Bf (W64 (y2+1))) (W64 (i1+1))
  else
   some (x2,i1)
def qjz (n:Nat) (c:qw):Option (List Int) :=
 (mkS 6 (0:Int)).bind fun x1 =>
 (qdp c n x1 0).bind fun o=>match o with
 | (x2,_) =>
  some x2
theorem qpE {c:qw} (ha1:Ro w c cs1) {r:(List Int)} (hF:qjz n c=some r):RetV Tryz.prog 262 [GoT.v qw cs1] w r:=by
 obtain ⟨p1,k1,p2,k2,p3,k3,rfl,s1,s2,s3⟩:=qad ha1
 refine zV 25 Tryz.func262 rfl fun h=>zSR (qv h rfl rfl fun w1 bb1 h=>X0 4 rfl ?_)
 obtain ⟨x1,hx1,hF⟩:=qc hF
 obtain ⟨g1,g2,hx1⟩:=qU hx1
 refine qam qa Int h rfl rfl rfl rfl rfl rfl rfl rfl rfl g1 g2 hx1 rfl fun w2 S1 p4 h=>X0 7 rfl ?_
 obtain ⟨o1,hF,hK1⟩:=qc hF
 refine qm (rL (fun m e w'=>∃ (x2:(List Int)) (i1:Int),qdp c m x2 i1=some o1∧e=[(1,.pointer (some ⟨bb1,0,none⟩)),(3,.slice p4 x1.length x1.length),(4,.int .i64 i1)]∧SH w w' [Ch.own S1 (x2:List Int) [.slice p4 x1.length x1.length],Ch.box bb1 (qee c p1 p2 p3 k1 k2 k3) 168]) n ⟨_,_,hF,rfl,h⟩ rfl ?_)
 rintro m1 e1 w3 ⟨x2,i1,hF,rfl,h⟩
 rcases m1 with _|m1
 ·cases hF
 refine X1 9 1 h rfl (qh rfl hF ?_ ?_)<;>intro hF
 ·refine X1 8 1 h rfl ?_
  obtain ⟨y1,hy1,hF,he1,b1,_,q1,cs2,hp1,hq1,hr1,hc2⟩:=s2.ix hF
  obtain ⟨p5,k4,p6,k5,rfl,s4,s5⟩:=qae hr1
  refine zxe hp1 hq1 he1 rfl (zp1 rfl (zc 0 (hc2.below h.below) rfl ?_))
  obtain ⟨y2,hy2,hF,he2,b2,_,q2,cs3,hp2,hq2,rfl,hc3⟩:=(h.sl 0 rfl).1.ix hF
  refine zx hp2 hq2 ⟨he2.1,qC he2.2.1 (h.sl 0 rfl).2⟩ rfl (zc 0 hc3 rfl (zp1 rfl ?_))
  obtain ⟨y3,hy3,hF,he3,b3,_,q3,cs4,hp3,hq3,rfl,hc4⟩:=(h.sl 0 rfl).1.ix hF
  exact zx hp3 hq3 ⟨he3.1,qC he3.2.1 (h.sl 0 rfl).2⟩ rfl (qaA qa 0 0 (W64 (y2+1)) h rfl hy3 hp3 hq3 rfl hc4 rfl rfl rfl rfl rfl rfl rfl fun w4 h=>X0 7 rfl (rK ⟨_,_,hF,rfl,h⟩ rfl))
 refine qq rfl ?_
 obtain rfl:=qb hF;replace hF:=hK1
 refine X0 5 rfl ?_
 obtain rfl:=qb hF
 exact rO 0 h rfl ⟨rfl,trivial⟩
end Go.Fw
