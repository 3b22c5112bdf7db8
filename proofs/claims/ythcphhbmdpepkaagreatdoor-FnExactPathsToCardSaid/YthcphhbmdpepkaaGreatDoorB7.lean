/- By a program of mine (gen.py): for each function a plain function and the proof that the code computes it. -/
import Derived.Test.YthcphhbmdpepkaaGreatDoorA3
import Derived.Test.YthcphhbmdpepkaaGreatDoorFw33

namespace Go.Fw
open Go Go.Proofs
open Go.RowKit (Below)
set_option maxRecDepth 100000
def qgJ (n : Nat) (t : qG) : Option Bool :=
 (qgo n t.Slews).bind fun r1 =>
 bif r1 then
  (qgo n t.Loads).bind fun r2 =>
  bif r2 then
   bif ((t.Values.length : Int) == (W64 ((t.Slews.length : Int) * (t.Loads.length : Int)))) then
    (qb6 n t.Values (-1000000) 1000000).bind fun r3 =>
    some r3
   else
    some false
  else
   some false
 else
  some false

theorem qkP {n : Nat} {w : World} {t : qG} {cs1 : List Value} (ha1 : GoT.R w (old w) t cs1) {r : Bool} (hF : qgJ n t = some r) : RetV Tryz.prog 212 [GoT.v qG cs1] w r := by
 obtain ⟨p1, k1, p2, k2, p3, k3, rfl, s1, s2, s3⟩ := qbt ha1
 refine qe Tryz.func212 rfl (m := 29) rfl rfl (fun h => ?_)
 rw [qgJ] at hF
 refine zSR (qN h rfl rfl ?_)
 intro w1 bb1 h
 refine zp1 rfl (zNSR (zp1 rfl (zl 0 0 h rfl ?_)))
 obtain ⟨r1, hr1, hF⟩ := qd hF
 refine qp r1 h call221 (qiZ ⟨_, _, rfl, (h.oldS s1)⟩ hr1) rfl rfl rfl rfl ?_
 intro w2 h
 refine zp1 rfl ?_
 by_cases hc1 : r1 = true
 ·replace hF := bifT hc1 hF
  refine qB hc1 (t := 6) rfl (qa rfl (zp1 rfl (qa rfl (zl 0 1 h rfl (qa rfl ?_)))))
  obtain ⟨r2, hr2, hF⟩ := qd hF
  refine qp r2 h call221 (qiZ ⟨_, _, rfl, (h.oldS s2)⟩ hr2) rfl rfl rfl rfl ?_
  intro w3 h
  refine zp2 rfl ?_
  by_cases hc2 : r2 = true
  ·replace hF := bifT hc2 hF
   refine qB hc2 (t := 11) rfl (qa rfl (zp1 rfl (qa rfl (zl 0 2 h rfl (qa rfl (zp1 rfl (qa rfl (zp1 rfl (qa rfl (zl 0 0 h rfl (qa rfl ?_)))))))))))
   refine zp1 rfl (qa rfl (zp1 rfl (qa rfl (zl 0 1 h rfl (qa rfl (zp1 rfl (qa rfl (zp1 rfl (qa rfl (zp2 rfl ?_))))))))))
   refine zp1 rfl ?_
   by_cases hc3 : ((t.Values.length : Int) == (W64 ((t.Slews.length : Int) * (t.Loads.length : Int)))) = true
   ·replace hF := bifT hc3 hF
    refine qB hc3 (t := 24) rfl (qa rfl (zp1 rfl (qa rfl (zl 0 2 h rfl (qa rfl ?_)))))
    obtain ⟨r3, hr3, hF⟩ := qd hF
    refine qp r3 h call82 (qds ⟨_, _, rfl, (h.oldS s3)⟩ hr3) rfl rfl rfl rfl ?_
    intro w4 h
    exact zp2 rfl (qb (qz qc h hF ⟨rfl, trivial⟩))
   replace hc3 := zb hc3
   replace hF := bifF hc3 hF
   exact qC hc3 (t := 24) rfl (zn3 rfl (zp2 rfl (qb (qz qc h hF ⟨rfl, trivial⟩))))
  replace hc2 := zb hc2
  replace hF := bifF hc2 hF
  refine qC hc2 (t := 11) rfl (zn5 rfl (zn5 rfl (zn1 rfl ?_)))
  exact zp2 rfl (zn3 rfl (zp2 rfl (qb (qz qc h hF ⟨rfl, trivial⟩))))
 replace hc1 := zb hc1
 replace hF := bifF hc1 hF
 refine qC hc1 (t := 6) rfl (zn3 rfl (zp2 rfl (zn5 rfl (zn1 rfl ?_))))
 refine zn5 rfl (zp2 rfl (zn3 rfl (zp2 rfl ?_)))
 exact qb (qz qc h hF ⟨rfl, trivial⟩)

def qbx (x : (List Int)) : Nat → Int → Int → Option (Int × Int)
 | 0, _, _ => none
 | n + 1, i1, i2 =>
  bif decide (i2 < (x.length : Int)) then
   (idx x i2).bind fun y2 =>
   qbx x n (if y2 < i1 then y2 else i1) (W64 (i2 + 1))
  else
   some (i1, i2)

def qeN (n : Nat) (x : (List Int)) : Option Int :=
 (
  bif decide ((x.length : Int) < 1) then
   none
  else
   some ()).bind fun _ =>
 (idx x 0).bind fun y1 =>
 (qbx x n y1 1).bind fun o => match o with
 | (i1, _) =>
  some i1

theorem qjF {n : Nat} {w : World} {x : (List Int)} {cs1 : List Value} (ha1 : GoT.R w (old w) x cs1) {r : Int} (hF : qeN n x = some r) : RetV Tryz.prog 213 [GoT.v (List Int) cs1] w r := by
 obtain ⟨p1, k1, rfl, s1⟩ := ha1
 refine qe Tryz.func213 rfl (m := 25) rfl rfl (fun h => ?_)
 rw [qeN] at hF
 refine zSR (zp1 rfl (zNSSR (zp3 rfl (qb ?_))))
 obtain ⟨KF1, hKF1, o2, hF, hK2⟩ := bindE hF
 refine qek (fun e w' => KF1 () = some r ∧ e = [(0, .slice p1 x.length k1)] ∧ SH w w' []) ?_ ?_
 ·refine qu rfl hF ?_ ?_ <;> intro hF
  ·refine qA ?_
   cases hF
  refine qeq ?_
  obtain rfl := qh hF
  exact qy [(0, _)] ⟨rfl, trivial⟩ ⟨hK2, rfl, h⟩
 rintro e2 w2 ⟨hF, rfl, h⟩
 subst hKF1
 refine zSR (zp1 rfl ?_)
 obtain ⟨y1, hy1, hF⟩ := qd hF
 have he1 := qf hy1
 obtain ⟨b1, o_1, q1, cs2, hp1, hq1, -, hr1, hc1⟩ := s1.at hy1
 obtain rfl := hr1
 refine zxe hp1 hq1 he1 rfl (zc 0 (hc1.below h.below) rfl (zp1 rfl (zNSSR (zp1 rfl (qb ?_)))))
 obtain ⟨o1, hF, hK1⟩ := qd hF
 refine qw (qP [(0, _), (3, _), (4, _)] ⟨rfl, rfl, rfl, trivial⟩ ?_)
 refine qF (fun m e w' => ∃ (i1 : Int) (i2 : Int), qbx x m i1 i2 = some o1 ∧ e = [(0, .slice p1 x.length k1), (3, .int .i64 i1), (4, .int .i64 i2)] ∧ SH w w' []) n ⟨_, _, hF, rfl, h⟩ ?_
 rintro m1 e1 w1 ⟨i1, i2, hF, rfl, h⟩
 rcases m1 with _ | m1
 ·rw [qbx] at hF
  cases hF
 rw [qbx] at hF
 refine zSSR (zp4 rfl (qb ?_))
 refine qu rfl hF ?_ ?_ <;> intro hF
 ·refine zKSBR (zp3 rfl ?_)
  obtain ⟨y2, hy2, hF⟩ := qd hF
  have he2 := qf hy2
  obtain ⟨b2, o_2, q2, cs3, hp2, hq2, -, hr2, hc3⟩ := s1.at hy2
  obtain rfl := hr2
  exact zxe hp2 hq2 he2 rfl (zc 0 (hc3.below h.below) rfl (zp2 rfl (zNER (zp3 rfl (qb (qx m1 [(0, _), (3, _), (4, _)] (Nat.lt_succ_self m1) ⟨rfl, rfl, rfl, trivial⟩ ⟨_, _, hF, rfl, h⟩))))))
 refine qE rfl ?_
 obtain rfl := qh hF; replace hF := hK1
 exact zSR (zp2 rfl (qb (qaH qc h hF ⟨rfl, trivial⟩)))

def qeO (n : Nat) (t : qG) (v0 : Bool) : Option Bool :=
 (qgJ n t).bind fun r1 =>
 bif (!r1) then
  some true
 else
  bif v0 then
   (qeN n t.Values).bind fun r2 =>
   some (decide (r2 < 0))
  else
   some false

theorem qjy {n : Nat} {w : World} {t : qG} {v0 : Bool} {cs1 : List Value} (ha1 : GoT.R w (old w) t cs1) {p4 : Option Addr} (ha2 : GoT.R w (old w) (some v0) [.pointer p4]) {r : Bool} (hF : qeO n t v0 = some r) : RetV Tryz.prog 211 [GoT.v qG cs1, .pointer p4] w r := by
 obtain ⟨p1, k1, p2, k2, p3, k3, rfl, s1, s2, s3⟩ := qbt ha1
 obtain ⟨b1, o_1, cs2, rfl, -, hr1, hc1⟩ := PtR.get ha2 rfl
 obtain rfl := hr1
 refine qe Tryz.func211 rfl (m := 16) rfl rfl (fun h => ?_)
 rw [qeO] at hF
 refine zSR (qN h rfl rfl ?_)
 intro w1 bb1 h
 refine zp1 rfl (zNSR (zl 0 0 h rfl ?_))
 obtain ⟨r1, hr2, hF⟩ := qd hF
 refine qp r1 h call212 (qkP (h.old ha1) hr2) rfl rfl rfl rfl ?_
 intro w2 h
 refine zp2 rfl ?_
 by_cases hc2 : (!r1) = true
 ·replace hF := bifT hc2 hF
  exact qB hc2 (t := 7) rfl (zn5 rfl (zn2 rfl (zp2 rfl (qb (qz qc h hF ⟨rfl, trivial⟩)))))
 replace hc2 := zb hc2
 replace hF := bifF hc2 hF
 refine qC hc2 (t := 7) rfl (qa rfl (zc 0 (hc1.below h.below) rfl (qa rfl (zp1 rfl ?_))))
 by_cases hc3 : v0 = true
 ·replace hF := bifT hc3 hF
  refine qB hc3 (t := 9) rfl (qa rfl (zp1 rfl (qa rfl (zl 0 2 h rfl (qa rfl ?_)))))
  obtain ⟨r2, hr3, hF⟩ := qd hF
  refine qT r2 h call213 (qjF ⟨_, _, rfl, (h.oldS s3)⟩ hr3) rfl rfl rfl rfl ?_
  intro w3 h
  exact qa rfl (zp1 rfl (qa rfl (zp3 rfl (qb (qz qc h hF ⟨rfl, trivial⟩)))))
 replace hc3 := zb hc3
 replace hF := bifF hc3 hF
 exact qC hc3 (t := 9) rfl (zn4 rfl (qa rfl (zp3 rfl (qb (qz qc h hF ⟨rfl, trivial⟩)))))

def qK (s : (List qG)) (f_0 : Bool) : Nat → Int → Option (Flow Int Int)
 | 0, _ => none
 | n + 1, i1 =>
  bif decide (i1 < (s.length : Int)) then
   (idx s i1).bind fun y1 =>
   (qeO n y1 f_0).bind fun r1 =>
   bif r1 then
    some (.ret i1)
   else
    qK s f_0 n (W64 (i1 + 1))
  else
   some (.nxt i1)

def qai (n : Nat) (s : (List qG)) (f_0 : Bool) : Option Int :=
 (qK s f_0 n 0).bind fun o => match o with
 | .ret r => some r
 | .nxt _ =>
  some (-1)

theorem qeg {n : Nat} {w : World} {s : (List qG)} {f_0 : Bool} {cs1 : List Value} (ha1 : GoT.R w (old w) s cs1) {p2 : Option Addr} (ha2 : GoT.R w (old w) (some f_0) [.pointer p2]) {r : Int} (hF : qai n s f_0 = some r) : RetV Tryz.prog 220 [GoT.v (List qG) cs1, .func (.func 211) #[] #[.pointer p2]] w r := by
 obtain ⟨p1, k1, rfl, s1⟩ := ha1
 obtain ⟨b1, o_1, cs2, rfl, -, hr1, hc1⟩ := PtR.get ha2 rfl
 obtain rfl := hr1
 refine qe Tryz.func220 rfl (m := 19) rfl rfl (fun h => ?_)
 rw [qai] at hF
 refine zSR (zp1 rfl (zNSSR (zp3 rfl (qb ?_))))
 obtain ⟨o1, hF, hK1⟩ := qd hF
 refine qw (qP [(0, _), (1, _), (7, _), (8, _)] ⟨rfl, rfl, rfl, rfl, trivial⟩ ?_)
 refine qF (fun m e w' => ∃ (i1 : Int), qK s f_0 m i1 = some o1 ∧ e = [(0, .slice p1 s.length k1), (1, .func (.func 211) #[] #[.pointer (some ⟨b1, o_1, none⟩)]), (7, .int .i64 (s.length : Int)), (8, .int .i64 i1)] ∧ SH w w' []) n ⟨_, hF, rfl, h⟩ ?_
 rintro m1 e1 w1 ⟨i1, hF, rfl, h⟩
 rcases m1 with _ | m1
 ·rw [qK] at hF
  cases hF
 rw [qK] at hF
 refine zSR (zp1 rfl (zNS ?_))
 refine qu rfl hF ?_ ?_ <;> intro hF
 ·refine zKSBSR (zp2 rfl (zNSR (zp2 rfl ?_)))
  refine zp1 rfl ?_
  obtain ⟨y1, hy1, hF⟩ := qd hF
  have he1 := qf hy1
  obtain ⟨b2, o_2, q1, cs3, hp1, hq1, -, hr2, hc3⟩ := s1.at hy1
  obtain ⟨p3, k2, p4, k3, p5, k4, rfl, s2, s3, s4⟩ := qbt hr2
  refine zxe hp1 hq1 he1 rfl (zc 0 (hc3.below h.below) rfl ?_)
  obtain ⟨r1, hr3, hF⟩ := qd hF
  refine qp r1 h call211 (qjy (qg2 y1 (h.oldS s2) (h.oldS s3) (h.oldS s4)) (h.old ha2) hr3) rfl rfl rfl rfl ?_
  intro w2 h
  refine qb ?_
  refine qu rfl hF ?_ ?_ <;> intro hF
  ·refine zSR (zp2 rfl (qb ?_))
   obtain rfl := qh hF; replace hF := hK1
   exact qaH qc h hF ⟨rfl, trivial⟩
  exact zKER (zp2 rfl (qb (qx m1 [(0, _), (1, _), (7, _), (8, _)] (Nat.lt_succ_self m1) ⟨rfl, rfl, rfl, rfl, trivial⟩ ⟨_, hF, rfl, h⟩)))
 refine qE rfl ?_
 obtain rfl := qh hF; replace hF := hK1
 exact zSR (zp1 rfl (qb (qaH qc h hF ⟨rfl, trivial⟩)))

def qay (n : Nat) (s : (List qG)) (f_0 : Bool) : Option Bool :=
 (qai n s f_0).bind fun r1 =>
 some (decide (r1 ≥ 0))

theorem qdU {n : Nat} {w : World} {s : (List qG)} {f_0 : Bool} {cs1 : List Value} (ha1 : GoT.R w (old w) s cs1) {p2 : Option Addr} (ha2 : GoT.R w (old w) (some f_0) [.pointer p2]) {r : Bool} (hF : qay n s f_0 = some r) : RetV Tryz.prog 210 [GoT.v (List qG) cs1, .func (.func 211) #[] #[.pointer p2]] w r := by
 obtain ⟨p1, k1, rfl, s1⟩ := ha1
 obtain ⟨b1, o_1, cs2, rfl, -, hr1, hc1⟩ := PtR.get ha2 rfl
 obtain rfl := hr1
 refine qe Tryz.func210 rfl (m := 9) rfl rfl (fun h => ?_)
 rw [qay] at hF
 refine zSR (zp1 rfl (zNSR (zp2 rfl ?_)))
 obtain ⟨r1, hr2, hF⟩ := qd hF
 refine qT r1 h call220 (qeg ⟨_, _, rfl, (h.oldS s1)⟩ (h.old ha2) hr2) rfl rfl rfl rfl ?_
 intro w1 h
 exact zp2 rfl (qb (qz qc h hF ⟨rfl, trivial⟩))

def qdV (n : Nat) (list : (List qG)) (positive : Bool) : Option Bool :=
 bif ((list.length : Int) == 2) then
  (qay n list positive).bind fun r1 =>
  some (!r1)
 else
  some false

theorem qgP {n : Nat} {w : World} {list : (List qG)} {positive : Bool} {cs1 : List Value} (ha1 : GoT.R w (old w) list cs1) {r : Bool} (hF : qdV n list positive = some r) : RetV Tryz.prog 199 [GoT.v (List qG) cs1, .bool positive] w r := by
 obtain ⟨p1, k1, rfl, s1⟩ := ha1
 refine qe Tryz.func199 rfl (m := 14) rfl rfl (fun h => ?_)
 rw [qdV] at hF
 refine zSR (qN h rfl rfl ?_)
 intro w1 bb1 h
 refine zp1 rfl (zNSR (zp4 rfl ?_))
 by_cases hc1 : ((list.length : Int) == 2) = true
 ·replace hF := bifT hc1 hF
  refine qB hc1 (t := 8) rfl (qa rfl (zp1 rfl (qa rfl (zp1 rfl (qa rfl ?_)))))
  obtain ⟨r1, hr1, hF⟩ := qd hF
  refine qp r1 h call210 (qdU ⟨_, _, rfl, (h.oldS s1)⟩ (qhU (x := positive) 0 h rfl rfl) hr1) rfl rfl rfl rfl ?_
  intro w2 h
  exact qa rfl (zp3 rfl (qb (qz qc h hF ⟨rfl, trivial⟩)))
 replace hc1 := zb hc1
 replace hF := bifF hc1 hF
 exact qC hc1 (t := 8) rfl (zn4 rfl (zp2 rfl (qb (qz qc h hF ⟨rfl, trivial⟩))))

def qfh (_ : Nat) (p : qau) : Option Bool :=
 some p.Clock

theorem qjb {n : Nat} {w : World} {p : qau} {cs1 : List Value} (ha1 : GoT.R w (old w) p cs1) {r : Bool} (hF : qfh n p = some r) : RetV Tryz.prog 215 [GoT.v qau cs1] w r := by
 obtain rfl := qbg ha1
 refine qe Tryz.func215 rfl (m := 5) rfl rfl (fun h => ?_)
 rw [qfh] at hF
 refine zSR (qN h rfl rfl ?_)
 intro w1 bb1 h
 exact zp1 rfl (zNSR (zp1 rfl (zl 0 3 h rfl (zp1 rfl (qb (qz qc h hF ⟨rfl, trivial⟩))))))

def qL (s : (List qau)) : Nat → Int → Option (Flow Int Int)
 | 0, _ => none
 | n + 1, i1 =>
  bif decide (i1 < (s.length : Int)) then
   (idx s i1).bind fun y1 =>
   (qfh n y1).bind fun r1 =>
   bif r1 then
    some (.ret i1)
   else
    qL s n (W64 (i1 + 1))
  else
   some (.nxt i1)

def qaL (n : Nat) (s : (List qau)) : Option Int :=
 (qL s n 0).bind fun o => match o with
 | .ret r => some r
 | .nxt _ =>
  some (-1)

theorem qeu {n : Nat} {w : World} {s : (List qau)} {cs1 : List Value} (ha1 : GoT.R w (old w) s cs1) {r : Int} (hF : qaL n s = some r) : RetV Tryz.prog 214 [GoT.v (List qau) cs1, .func (.func 215) #[] #[]] w r := by
 obtain ⟨p1, k1, rfl, s1⟩ := ha1
 refine qe Tryz.func214 rfl (m := 19) rfl rfl (fun h => ?_)
 rw [qaL] at hF
 refine zSR (zp1 rfl (zNSSR (zp3 rfl (qb ?_))))
 obtain ⟨o1, hF, hK1⟩ := qd hF
 refine qw (qP [(0, _), (1, _), (7, _), (8, _)] ⟨rfl, rfl, rfl, rfl, trivial⟩ ?_)
 refine qF (fun m e w' => ∃ (i1 : Int), qL s m i1 = some o1 ∧ e = [(0, .slice p1 s.length k1), (1, .func (.func 215) #[] #[]), (7, .int .i64 (s.length : Int)), (8, .int .i64 i1)] ∧ SH w w' []) n ⟨_, hF, rfl, h⟩ ?_
 rintro m1 e1 w1 ⟨i1, hF, rfl, h⟩
 rcases m1 with _ | m1
 ·rw [qL] at hF
  cases hF
 rw [qL] at hF
 refine zSR (zp1 rfl (zNS ?_))
 refine qu rfl hF ?_ ?_ <;> intro hF
 ·refine zKSBSR (zp2 rfl (zNSR (zp2 rfl ?_)))
  refine zp1 rfl ?_
  obtain ⟨y1, hy1, hF⟩ := qd hF
  have he1 := qf hy1
  obtain ⟨b1, o_1, q1, cs2, hp1, hq1, -, hr1, hc2⟩ := s1.at hy1
  obtain rfl := qbg hr1
  refine zxe hp1 hq1 he1 rfl (zc 0 (hc2.below h.below) rfl ?_)
  obtain ⟨r1, hr2, hF⟩ := qd hF
  refine qp r1 h call215 (qjb (qhd y1) hr2) rfl rfl rfl rfl ?_
  intro w2 h
  refine qb ?_
  refine qu rfl hF ?_ ?_ <;> intro hF
  ·refine zSR (zp2 rfl (qb ?_))
   obtain rfl := qh hF; replace hF := hK1
   exact qaH qc h hF ⟨rfl, trivial⟩
  exact zKER (zp2 rfl (qb (qx m1 [(0, _), (1, _), (7, _), (8, _)] (Nat.lt_succ_self m1) ⟨rfl, rfl, rfl, rfl, trivial⟩ ⟨_, hF, rfl, h⟩)))
 refine qE rfl ?_
 obtain rfl := qh hF; replace hF := hK1
 exact zSR (zp1 rfl (qb (qaH qc h hF ⟨rfl, trivial⟩)))

def qe8 (n : Nat) (c : qD) : Option Int :=
 (qaL n c.Pins).bind fun r1 =>
 some r1

theorem qjU {n : Nat} {w : World} {c : qD} {cs1 : List Value} (ha1 : GoT.R w (old w) c cs1) {r : Int} (hF : qe8 n c = some r) : RetV Tryz.prog 200 [GoT.v qD cs1] w r := by
 obtain ⟨p1, k1, p2, k2, p3, k3, rfl, s1, s2, s3⟩ := qU ha1
 refine qe Tryz.func200 rfl (m := 6) rfl rfl (fun h => ?_)
 rw [qe8] at hF
 refine zSR (qN h rfl rfl ?_)
 intro w1 bb1 h
 refine zp1 rfl (zNSR (zp1 rfl (zl 0 2 h rfl ?_)))
 obtain ⟨r1, hr1, hF⟩ := qd hF
 refine qT r1 h call214 (qeu ⟨_, _, rfl, (h.oldS s1)⟩ hr1) rfl rfl rfl rfl ?_
 intro w2 h
 exact zp1 rfl (qb (qaH qc h hF ⟨rfl, trivial⟩))

def qec (n : Nat) (c : qD) (pin : Int) : Option Bool :=
 (qbT n c).bind fun r1 =>
 (qba n pin 0 (W64 (r1 - 1))).bind fun r2 =>
 some r2

theorem qhg {n : Nat} {w : World} {c : qD} {pin : Int} {cs1 : List Value} (ha1 : GoT.R w (old w) c cs1) {r : Bool} (hF : qec n c pin = some r) : RetV Tryz.prog 201 [GoT.v qD cs1, .int .i64 pin] w r := by
 obtain ⟨p1, k1, p2, k2, p3, k3, rfl, s1, s2, s3⟩ := qU ha1
 refine qe Tryz.func201 rfl (m := 10) rfl rfl (fun h => ?_)
 rw [qec] at hF
 refine zSR (qN h rfl rfl ?_)
 intro w1 bb1 h
 refine zp1 rfl (zNSR (zp1 rfl (zl 0 0 h rfl ?_)))
 obtain ⟨r1, hr1, hF⟩ := qd hF
 refine qT r1 h call106 (qey (h.old ha1) hr1) rfl rfl rfl rfl ?_
 intro w2 h
 refine zp1 rfl ?_
 obtain ⟨r2, hr2, hF⟩ := qd hF
 refine qp r2 h call100 (qaW hr2) rfl rfl rfl rfl ?_
 intro w3 h
 exact zp1 rfl (qb (qz qc h hF ⟨rfl, trivial⟩))

def qe6 (n : Nat) (a_0 : qD) (a_1 : qZ) : Option Bool :=
 (qgH n a_1.Kind).bind fun r1 =>
 bif r1 then
  (
   bif (a_1.Sense == 0) then
    bif ((a_1.Slew.length : Int) == 0) then
     (qdV n a_1.Delay false).bind fun r2 =>
     bif r2 then
      (qe8 n a_0).bind fun r3 =>
      bif (a_1.From == r3) then
       bif decide (a_1.From ≥ 0) then
        (qec n a_0 a_1.To).bind fun r4 =>
        bif r4 then
         some (a_1.To != a_1.From)
        else
         some false
       else
        some false
      else
       some false
     else
      some false
    else
     some false
   else
    some false).bind fun b1 =>
  some b1
 else
  (
   (qdV n a_1.Delay true).bind fun r6 =>
   bif (!r6) then
    some true
   else
    (qdV n a_1.Slew true).bind fun r7 =>
    bif (!r7) then
     some true
    else
     (qbT n a_0).bind fun r8 =>
     bif (a_1.To != r8) then
      some true
     else
      (qec n a_0 a_1.From).bind fun r9 =>
      some (!r9)).bind fun b2 =>
  bif b2 then
   some false
  else
   bif (a_1.Kind == 1) then
    (idx a_0.Pins a_1.From).bind fun y1 =>
    bif (!y1.Clock) then
     (qba n a_1.Sense 1 3).bind fun r5 =>
     some r5
    else
     some false
   else
    (
     bif (a_1.Kind == 2) then
      some (a_1.Kind == 2)
     else
      some (a_1.Kind == 3)).bind fun b4 =>
    bif b4 then
     (idx a_0.Pins a_1.From).bind fun y2 =>
     bif y2.Clock then
      some (a_1.Sense == 0)
     else
      some false
    else
     some false

theorem qjR {n : Nat} {w : World} {a_0 : qD} {a_1 : qZ} {cs1 : List Value} (ha1 : GoT.R w (old w) a_0 cs1) {cs2 : List Value} (ha2 : GoT.R w (old w) a_1 cs2) {r : Bool} (hF : qe6 n a_0 a_1 = some r) : RetV Tryz.prog 182 [GoT.v qD cs1, GoT.v qZ cs2] w r := by
 obtain ⟨p1, k1, p2, k2, p3, k3, rfl, s1, s2, s3⟩ := qU ha1
 obtain ⟨p4, k4, p5, k5, rfl, s4, s5⟩ := qav ha2
 refine qe Tryz.func182 rfl (m := 103) rfl rfl (fun h => ?_)
 rw [qe6] at hF
 refine zSR (qN h rfl rfl ?_)
 intro w1 bb1 h
 refine qN h rfl rfl ?_
 intro w2 bb2 h
 refine zp1 rfl (zNSSR (zp1 rfl (zl 0 0 h rfl ?_)))
 obtain ⟨r1, hr1, hF⟩ := qd hF
 refine qp r1 h call198 (qkQ hr1) rfl rfl rfl rfl ?_
 intro w3 h
 refine qb ?_
 refine qu rfl hF ?_ ?_ <;> intro hF
 ·refine qbd ?_
  obtain ⟨KF1, hKF1, o1, hF, hK1⟩ := bindE hF
  refine qek (fun e w' => ∃ (b1 : Bool), KF1 b1 = some r ∧ e = [(4, .bool b1)] ∧ SH w w' []) ?_ ?_
  ·refine qcA rfl (by kernel_rfl) ?_
   refine zd1 rfl ?_
   refine zdl 0 3 h rfl ?_
   refine zd2 rfl ?_
   by_cases hc2 : (a_1.Sense == 0) = true
   ·replace hF := bifT hc2 hF
    refine qcC hc2 (t := 11) rfl (qg rfl (zd1 rfl (qg rfl ?_)))
    refine zdl 0 5 h rfl ?_
    refine qg rfl (zd1 rfl (qg rfl (zd3 rfl ?_)))
    by_cases hc3 : ((a_1.Slew.length : Int) == 0) = true
    ·replace hF := bifT hc3 hF
     refine qcC hc3 (t := 17) rfl (qg rfl (zd1 rfl (qg rfl ?_)))
     refine zdl 0 4 h rfl ?_
     refine qg rfl ?_
     obtain ⟨r2, hr2, hF⟩ := qd hF
     refine qcD r2 (vsB _) call199 (fun _ hb => qgP ⟨_, _, rfl, ((h.ext hb).oldS s4)⟩ hr2) rfl rfl rfl rfl ?_
     refine zd2 rfl ?_
     by_cases hc4 : r2 = true
     ·replace hF := bifT hc4 hF
      refine qcC hc4 (t := 22) rfl (qg rfl (zd1 rfl (qg rfl ?_)))
      refine zdl 0 1 h rfl ?_
      refine qg rfl ?_
      refine zdl 1 0 h rfl ?_
      refine qg rfl ?_
      obtain ⟨r3, hr3, hF⟩ := qd hF
      refine qcD r3 (vsI _) call200 (fun _ hb => qjU ((h.ext hb).old ha1) hr3) rfl rfl rfl rfl ?_
      refine qg rfl (zd3 rfl ?_)
      by_cases hc5 : (a_1.From == r3) = true
      ·replace hF := bifT hc5 hF
       refine qcC hc5 (t := 29) rfl (qg rfl (zd1 rfl (qg rfl ?_)))
       refine zdl 0 1 h rfl ?_
       refine qg rfl (zd3 rfl ?_)
       by_cases hc6 : (decide (a_1.From ≥ 0)) = true
       ·replace hF := bifT hc6 hF
        refine qcC hc6 (t := 34) rfl (qg rfl ?_)
        refine zdl 1 0 h rfl ?_
        refine qg rfl (zd1 rfl (qg rfl ?_))
        refine zdl 0 2 h rfl ?_
        refine qg rfl ?_
        obtain ⟨r4, hr4, hF⟩ := qd hF
        refine qcD r4 (vsB _) call201 (fun _ hb => qhg ((h.ext hb).old ha1) hr4) rfl rfl rfl rfl ?_
        refine zd2 rfl ?_
        by_cases hc7 : r4 = true
        ·replace hF := bifT hc7 hF
         refine qcC hc7 (t := 40) rfl (qg rfl (zd1 rfl (qg rfl ?_)))
         refine zdl 0 2 h rfl ?_
         refine qg rfl (zd1 rfl (qg rfl ?_))
         refine zdl 0 1 h rfl ?_
         refine qg rfl (zd3 rfl ?_)
         refine qbb (fun w4 hb => ?_)
         replace h := h.ext hb
         clear hb
         replace h := h.pick [] rfl
         obtain rfl := qh hF
         exact qy [(4, _)] ⟨rfl, trivial⟩ ⟨_, hK1, rfl, h⟩
        replace hc7 := zb hc7
        replace hF := bifF hc7 hF
        refine qcy hc7 (t := 40) rfl (qk rfl rfl rfl (qk rfl rfl rfl (qk rfl rfl rfl (qk rfl rfl rfl (qk rfl rfl rfl (zd2 rfl ?_))))))
        refine qbb (fun w5 hb => ?_)
        replace h := h.ext hb
        clear hb
        replace h := h.pick [] rfl
        obtain rfl := qh hF
        exact qy [(4, _)] ⟨rfl, trivial⟩ ⟨_, hK1, rfl, h⟩
       replace hc6 := zb hc6
       replace hF := bifF hc6 hF
       refine qcy hc6 (t := 34) rfl (qk rfl rfl rfl (qk rfl rfl rfl (qk rfl rfl rfl (qk rfl rfl rfl (zd2 rfl (qk rfl rfl rfl (qk rfl rfl rfl (qk rfl rfl rfl (qk rfl rfl rfl (qk rfl rfl rfl ?_))))))))))
       refine zd2 rfl ?_
       refine qbb (fun w6 hb => ?_)
       replace h := h.ext hb
       clear hb
       replace h := h.pick [] rfl
       obtain rfl := qh hF
       exact qy [(4, _)] ⟨rfl, trivial⟩ ⟨_, hK1, rfl, h⟩
      replace hc5 := zb hc5
      replace hF := bifF hc5 hF
      refine qcy hc5 (t := 29) rfl (qk rfl rfl rfl (qk rfl rfl rfl (qk rfl rfl rfl (zd2 rfl (qk rfl rfl rfl (qk rfl rfl rfl (qk rfl rfl rfl (qk rfl rfl rfl (zd2 rfl ?_)))))))))
      refine qk rfl rfl rfl (qk rfl rfl rfl (qk rfl rfl rfl (qk rfl rfl rfl (qk rfl rfl rfl (zd2 rfl ?_)))))
      refine qbb (fun w7 hb => ?_)
      replace h := h.ext hb
      clear hb
      replace h := h.pick [] rfl
      obtain rfl := qh hF
      exact qy [(4, _)] ⟨rfl, trivial⟩ ⟨_, hK1, rfl, h⟩
     replace hc4 := zb hc4
     replace hF := bifF hc4 hF
     refine qcy hc4 (t := 22) rfl (qk rfl rfl rfl (qk rfl rfl rfl (qk rfl rfl rfl (qk rfl rfl rfl (qk rfl rfl rfl (zd2 rfl (qk rfl rfl rfl (qk rfl rfl rfl (qk rfl rfl rfl (zd1 rfl ?_))))))))))
     refine zd1 rfl (qk rfl rfl rfl (qk rfl rfl rfl (qk rfl rfl rfl (qk rfl rfl rfl (zd2 rfl (qk rfl rfl rfl (qk rfl rfl rfl (qk rfl rfl rfl (qk rfl rfl rfl (qk rfl rfl rfl ?_))))))))))
     refine zd2 rfl ?_
     refine qbb (fun w8 hb => ?_)
     replace h := h.ext hb
     clear hb
     replace h := h.pick [] rfl
     obtain rfl := qh hF
     exact qy [(4, _)] ⟨rfl, trivial⟩ ⟨_, hK1, rfl, h⟩
    replace hc3 := zb hc3
    replace hF := bifF hc3 hF
    refine qcy hc3 (t := 17) rfl (qk rfl rfl rfl (qk rfl rfl rfl (qk rfl rfl rfl (zd2 rfl (qk rfl rfl rfl (qk rfl rfl rfl (qk rfl rfl rfl (qk rfl rfl rfl (qk rfl rfl rfl (zd1 rfl ?_))))))))))
    refine zd1 rfl (qk rfl rfl rfl (qk rfl rfl rfl (qk rfl rfl rfl (zd2 rfl (qk rfl rfl rfl (qk rfl rfl rfl (qk rfl rfl rfl (qk rfl rfl rfl (zd2 rfl ?_)))))))))
    refine qk rfl rfl rfl (qk rfl rfl rfl (qk rfl rfl rfl (qk rfl rfl rfl (qk rfl rfl rfl (zd2 rfl ?_)))))
    refine qbb (fun w9 hb => ?_)
    replace h := h.ext hb
    clear hb
    replace h := h.pick [] rfl
    obtain rfl := qh hF
    exact qy [(4, _)] ⟨rfl, trivial⟩ ⟨_, hK1, rfl, h⟩
   replace hc2 := zb hc2
   replace hF := bifF hc2 hF
   refine qcy hc2 (t := 11) rfl (qk rfl rfl rfl (qk rfl rfl rfl (qk rfl rfl rfl (qk rfl rfl rfl (zd2 rfl (qk rfl rfl rfl (qk rfl rfl rfl (qk rfl rfl rfl (zd2 rfl ?_)))))))))
   refine qk rfl rfl rfl (qk rfl rfl rfl (qk rfl rfl rfl (qk rfl rfl rfl (qk rfl rfl rfl (zd2 rfl (qk rfl rfl rfl (qk rfl rfl rfl (qk rfl rfl rfl (zd2 rfl ?_)))))))))
   refine qk rfl rfl rfl (qk rfl rfl rfl (qk rfl rfl rfl (qk rfl rfl rfl (zd2 rfl (qk rfl rfl rfl (qk rfl rfl rfl (qk rfl rfl rfl (qk rfl rfl rfl (qk rfl rfl rfl (zd1 rfl ?_))))))))))
   refine zd1 rfl ?_
   refine qbb (fun w10 hb => ?_)
   replace h := h.ext hb
   clear hb
   replace h := h.pick [] rfl
   obtain rfl := qh hF
   exact qy [(4, _)] ⟨rfl, trivial⟩ ⟨_, hK1, rfl, h⟩
  rintro e1 w11 ⟨b1, hF, rfl, h⟩
  subst hKF1
  exact qz qc h hF ⟨rfl, trivial⟩
 refine zKSS ?_
 obtain ⟨KF3, hKF3, o3, hF, hK3⟩ := bindE hF
 refine qek (fun e w' => ∃ (b2 : Bool), KF3 b2 = some r ∧ e = [(2, .pointer (some ⟨bb1, 0, none⟩)), (3, .pointer (some ⟨bb2, 0, none⟩)), (70, .bool b2)] ∧ SH w w' [Ch.box bb2 [.int .i64 a_1.Kind, .int .i64 a_1.From, .int .i64 a_1.To, .int .i64 a_1.Sense, .slice p4 a_1.Delay.length k4, .slice p5 a_1.Slew.length k5] 159, Ch.box bb1 [.string a_0.Name, .int .i64 a_0.Kind, .slice p1 a_0.Pins.length k1, .slice p2 a_0.Arcs.length k2, .slice p3 a_0.Truth.length k3, .int .i64 a_0.Leak, .int .i64 a_0.Energy] 155]) ?_ ?_
 ·refine qcA rfl (by kernel_rfl) ?_
  refine zd1 rfl ?_
  refine zdl 0 4 h rfl ?_
  obtain ⟨r6, hr8, hF⟩ := qd hF
  refine qcD r6 (vsB _) call199 (fun _ hb => qgP ⟨_, _, rfl, ((h.ext hb).oldS s4)⟩ hr8) rfl rfl rfl rfl ?_
  refine zd2 rfl ?_
  by_cases hc16 : (!r6) = true
  ·replace hF := bifT hc16 hF
   refine qcC hc16 (t := 51) rfl (qk rfl rfl rfl (qk rfl rfl rfl (qk rfl rfl rfl (qk rfl rfl rfl (zd2 rfl (qk rfl rfl rfl (qk rfl rfl rfl (qk rfl rfl rfl (qk rfl rfl rfl (qk rfl rfl rfl ?_))))))))))
   refine zd2 rfl (qk rfl rfl rfl (qk rfl rfl rfl (qk rfl rfl rfl (qk rfl rfl rfl (qk rfl rfl rfl (zd1 rfl ?_))))))
   refine qbb (fun w14 hb => ?_)
   replace h := h.ext hb
   clear hb
   obtain rfl := qh hF
   exact qy [(2, _), (3, _), (70, _)] ⟨rfl, rfl, rfl, trivial⟩ ⟨_, hK3, rfl, h⟩
  replace hc16 := zb hc16
  replace hF := bifF hc16 hF
  refine qcy hc16 (t := 51) rfl (qg rfl (zd1 rfl (qg rfl ?_)))
  refine zdl 0 5 h rfl ?_
  refine qg rfl ?_
  obtain ⟨r7, hr9, hF⟩ := qd hF
  refine qcD r7 (vsB _) call199 (fun _ hb => qgP ⟨_, _, rfl, ((h.ext hb).oldS s5)⟩ hr9) rfl rfl rfl rfl ?_
  refine qg rfl (zd3 rfl ?_)
  by_cases hc17 : (!r7) = true
  ·replace hF := bifT hc17 hF
   refine qcC hc17 (t := 57) rfl (qk rfl rfl rfl (qk rfl rfl rfl (qk rfl rfl rfl (qk rfl rfl rfl (qk rfl rfl rfl (zd2 rfl (qk rfl rfl rfl (qk rfl rfl rfl (qk rfl rfl rfl (qk rfl rfl rfl ?_))))))))))
   refine qk rfl rfl rfl (zd1 rfl ?_)
   refine qbb (fun w15 hb => ?_)
   replace h := h.ext hb
   clear hb
   obtain rfl := qh hF
   exact qy [(2, _), (3, _), (70, _)] ⟨rfl, rfl, rfl, trivial⟩ ⟨_, hK3, rfl, h⟩
  replace hc17 := zb hc17
  replace hF := bifF hc17 hF
  refine qcy hc17 (t := 57) rfl (qg rfl (zd1 rfl (qg rfl ?_)))
  refine zdl 0 2 h rfl ?_
  refine qg rfl ?_
  refine zdl 1 0 h rfl ?_
  refine qg rfl ?_
  obtain ⟨r8, hr10, hF⟩ := qd hF
  refine qcD r8 (vsI _) call106 (fun _ hb => qey ((h.ext hb).old ha1) hr10) rfl rfl rfl rfl ?_
  refine qg rfl (zd3 rfl ?_)
  by_cases hc18 : (a_1.To != r8) = true
  ·replace hF := bifT hc18 hF
   refine qcC hc18 (t := 64) rfl (qk rfl rfl rfl (qk rfl rfl rfl (qk rfl rfl rfl (qk rfl rfl rfl (qk rfl rfl rfl (zd1 rfl ?_))))))
   refine qbb (fun w16 hb => ?_)
   replace h := h.ext hb
   clear hb
   obtain rfl := qh hF
   exact qy [(2, _), (3, _), (70, _)] ⟨rfl, rfl, rfl, trivial⟩ ⟨_, hK3, rfl, h⟩
  replace hc18 := zb hc18
  replace hF := bifF hc18 hF
  refine qcy hc18 (t := 64) rfl (qg rfl ?_)
  refine zdl 1 0 h rfl ?_
  refine qg rfl (zd1 rfl (qg rfl ?_))
  refine zdl 0 1 h rfl ?_
  refine qg rfl ?_
  obtain ⟨r9, hr11, hF⟩ := qd hF
  refine qcD r9 (vsB _) call201 (fun _ hb => qhg ((h.ext hb).old ha1) hr11) rfl rfl rfl rfl ?_
  refine qg rfl (zd2 rfl ?_)
  refine qbb (fun w17 hb => ?_)
  replace h := h.ext hb
  clear hb
  obtain rfl := qh hF
  exact qy [(2, _), (3, _), (70, _)] ⟨rfl, rfl, rfl, trivial⟩ ⟨_, hK3, rfl, h⟩
 rintro e3 w18 ⟨b2, hF, rfl, h⟩
 subst hKF3
 refine qu rfl hF ?_ ?_ <;> intro hF
 ·exact zSR (zp1 rfl (qb (qz qc h hF ⟨rfl, trivial⟩)))
 refine zKSSR (zp1 rfl (zl 0 0 h rfl (qb (zBSR (zp2 rfl ?_)))))
 refine qb ?_
 refine qu rfl hF ?_ ?_ <;> intro hF
 ·refine zSR (zp1 rfl (zl 1 2 h rfl (zp1 rfl (zl 0 1 h rfl ?_))))
  obtain ⟨y1, hy1, hF⟩ := qd hF
  have he1 := qf hy1
  obtain ⟨b3, o_1, q1, cs3, hp1, hq1, -, hr5, hc10⟩ := s1.at hy1
  obtain rfl := qbg hr5
  refine zxe hp1 hq1 he1 rfl (zp1 rfl (zc 3 (hc10.below h.below) rfl (zp2 rfl ?_)))
  by_cases hc11 : (!y1.Clock) = true
  ·replace hF := bifT hc11 hF
   refine qB hc11 (t := 83) rfl (qa rfl (zp1 rfl (qa rfl (zl 0 3 h rfl (qa rfl ?_)))))
   obtain ⟨r5, hr6, hF⟩ := qd hF
   refine qp r5 h call100 (qaW hr6) rfl rfl rfl rfl ?_
   intro w12 h
   exact zp2 rfl (qb (qz qc h hF ⟨rfl, trivial⟩))
  replace hc11 := zb hc11
  replace hF := bifF hc11 hF
  exact qC hc11 (t := 83) rfl (zn3 rfl (zp2 rfl (qb (qz qc h hF ⟨rfl, trivial⟩))))
 refine zSSR (zp2 rfl (qb ?_))
 obtain ⟨KF2, hKF2, o2, hF, hK2⟩ := bindE hF
 refine qek (fun e w' => ∃ (b4 : Bool), KF2 b4 = some r ∧ e = [(2, .pointer (some ⟨bb1, 0, none⟩)), (3, .pointer (some ⟨bb2, 0, none⟩)), (88, .bool b4)] ∧ SH w w' [Ch.box bb2 [.int .i64 a_1.Kind, .int .i64 a_1.From, .int .i64 a_1.To, .int .i64 a_1.Sense, .slice p4 a_1.Delay.length k4, .slice p5 a_1.Slew.length k5] 159, Ch.box bb1 [.string a_0.Name, .int .i64 a_0.Kind, .slice p1 a_0.Pins.length k1, .slice p2 a_0.Arcs.length k2, .slice p3 a_0.Truth.length k3, .int .i64 a_0.Leak, .int .i64 a_0.Energy] 155]) ?_ ?_
 ·refine qu rfl hF ?_ ?_ <;> intro hF
  ·refine qeq ?_
   obtain rfl := qh hF
   exact qy [(2, _), (3, _), (88, _)] ⟨rfl, rfl, rfl, trivial⟩ ⟨_, hK2, rfl, h⟩
  refine qA (zp2 rfl (qb ?_))
  obtain rfl := qh hF
  exact qy [(2, _), (3, _), (88, _)] ⟨rfl, rfl, rfl, trivial⟩ ⟨_, hK2, rfl, h⟩
 rintro e2 w13 ⟨b4, hF, rfl, h⟩
 subst hKF2
 refine qu rfl hF ?_ ?_ <;> intro hF
 ·refine zSR (zp1 rfl (zl 1 2 h rfl (zp1 rfl (zl 0 1 h rfl ?_))))
  obtain ⟨y2, hy2, hF⟩ := qd hF
  have he2 := qf hy2
  obtain ⟨b5, o_2, q2, cs4, hp2, hq2, -, hr7, hc13⟩ := s1.at hy2
  obtain rfl := qbg hr7
  refine zxe hp2 hq2 he2 rfl (zp1 rfl (zc 3 (hc13.below h.below) rfl (zp1 rfl ?_)))
  by_cases hc14 : y2.Clock = true
  ·replace hF := bifT hc14 hF
   exact qB hc14 (t := 98) rfl (qa rfl (zp1 rfl (qa rfl (zl 0 3 h rfl (qa rfl (zp3 rfl (qb (qz qc h hF ⟨rfl, trivial⟩))))))))
  replace hc14 := zb hc14
  replace hF := bifF hc14 hF
  exact qC hc14 (t := 98) rfl (zn3 rfl (zp2 rfl (qb (qz qc h hF ⟨rfl, trivial⟩))))
 exact zKE (zSR (zp1 rfl (qb (qz qc h hF ⟨rfl, trivial⟩))))

def qdB (_ : Nat) (a_o : qZ) (v0 : qZ) : Option Bool :=
 bif (a_o.Kind == v0.Kind) then
  bif (a_o.From == v0.From) then
   some (a_o.To == v0.To)
  else
   some false
 else
  some false

theorem qiH {n : Nat} {w : World} {a_o : qZ} {v0 : qZ} {cs1 : List Value} (ha1 : GoT.R w (old w) a_o cs1) {p3 : Option Addr} (ha2 : GoT.R w (old w) (some v0) [.pointer p3]) {r : Bool} (hF : qdB n a_o v0 = some r) : RetV Tryz.prog 183 [GoT.v qZ cs1, .pointer p3] w r := by
 obtain ⟨p1, k1, p2, k2, rfl, s1, s2⟩ := qav ha1
 obtain ⟨b1, o_1, cs2, rfl, -, hr1, hc1⟩ := PtR.get ha2 rfl
 obtain ⟨p4, k3, p5, k4, rfl, s3, s4⟩ := qav hr1
 refine qe Tryz.func183 rfl (m := 23) rfl rfl (fun h => ?_)
 rw [qdB] at hF
 refine zSR (qN h rfl rfl ?_)
 intro w1 bb1 h
 refine zp1 rfl (zNSR (zp1 rfl (zl 0 0 h rfl (zp1 rfl (zc 0 (hc1.below h.below) rfl (zp2 rfl ?_))))))
 by_cases hc2 : (a_o.Kind == v0.Kind) = true
 ·replace hF := bifT hc2 hF
  refine qB hc2 (t := 9) rfl (qa rfl (zp1 rfl (qa rfl (zl 0 1 h rfl (qa rfl (zp1 rfl (qa rfl (zc 1 (hc1.below h.below) rfl (qa rfl (zp2 rfl ?_))))))))))
  refine zp1 rfl ?_
  by_cases hc3 : (a_o.From == v0.From) = true
  ·replace hF := bifT hc3 hF
   refine qB hc3 (t := 16) rfl (qa rfl (zp1 rfl (qa rfl (zl 0 2 h rfl (qa rfl (zp1 rfl (qa rfl (zc 2 (hc1.below h.below) rfl (qa rfl (zp2 rfl ?_))))))))))
   exact zp1 rfl (qb (qz qc h hF ⟨rfl, trivial⟩))
  replace hc3 := zb hc3
  replace hF := bifF hc3 hF
  exact qC hc3 (t := 16) rfl (zn5 rfl (zp2 rfl (qb (qz qc h hF ⟨rfl, trivial⟩))))
 replace hc2 := zb hc2
 replace hF := bifF hc2 hF
 refine qC hc2 (t := 9) rfl (zn5 rfl (zp2 rfl (zn4 rfl ?_)))
 exact zn1 rfl (zp2 rfl (qb (qz qc h hF ⟨rfl, trivial⟩)))

def qJ (s : (List qZ)) (f_0 : qZ) : Nat → Int → Option (Flow Int Int)
 | 0, _ => none
 | n + 1, i1 =>
  bif decide (i1 < (s.length : Int)) then
   (idx s i1).bind fun y1 =>
   (qdB n y1 f_0).bind fun r1 =>
   bif r1 then
    some (.ret i1)
   else
    qJ s f_0 n (W64 (i1 + 1))
  else
   some (.nxt i1)

def qaE (n : Nat) (s : (List qZ)) (f_0 : qZ) : Option Int :=
 (qJ s f_0 n 0).bind fun o => match o with
 | .ret r => some r
 | .nxt _ =>
  some (-1)

theorem qd2 {n : Nat} {w : World} {s : (List qZ)} {f_0 : qZ} {cs1 : List Value} (ha1 : GoT.R w (old w) s cs1) {p2 : Option Addr} (ha2 : GoT.R w (old w) (some f_0) [.pointer p2]) {r : Int} (hF : qaE n s f_0 = some r) : RetV Tryz.prog 141 [GoT.v (List qZ) cs1, .func (.func 183) #[] #[.pointer p2]] w r := by
 obtain ⟨p1, k1, rfl, s1⟩ := ha1
 obtain ⟨b1, o_1, cs2, rfl, -, hr1, hc1⟩ := PtR.get ha2 rfl
 obtain ⟨p3, k2, p4, k3, rfl, s2, s3⟩ := qav hr1
 refine qe Tryz.func141 rfl (m := 19) rfl rfl (fun h => ?_)
 rw [qaE] at hF
 refine zSR (zp1 rfl (zNSSR (zp3 rfl (qb ?_))))
 obtain ⟨o1, hF, hK1⟩ := qd hF
 refine qw (qP [(0, _), (1, _), (7, _), (8, _)] ⟨rfl, rfl, rfl, rfl, trivial⟩ ?_)
 refine qF (fun m e w' => ∃ (i1 : Int), qJ s f_0 m i1 = some o1 ∧ e = [(0, .slice p1 s.length k1), (1, .func (.func 183) #[] #[.pointer (some ⟨b1, o_1, none⟩)]), (7, .int .i64 (s.length : Int)), (8, .int .i64 i1)] ∧ SH w w' []) n ⟨_, hF, rfl, h⟩ ?_
 rintro m1 e1 w1 ⟨i1, hF, rfl, h⟩
 rcases m1 with _ | m1
 ·rw [qJ] at hF
  cases hF
 rw [qJ] at hF
 refine zSR (zp1 rfl (zNS ?_))
 refine qu rfl hF ?_ ?_ <;> intro hF
 ·refine zKSBSR (zp2 rfl (zNSR (zp2 rfl ?_)))
  refine zp1 rfl ?_
  obtain ⟨y1, hy1, hF⟩ := qd hF
  have he1 := qf hy1
  obtain ⟨b2, o_2, q1, cs3, hp1, hq1, -, hr2, hc3⟩ := s1.at hy1
  obtain ⟨p5, k4, p6, k5, rfl, s4, s5⟩ := qav hr2
  refine zxe hp1 hq1 he1 rfl (zc 0 (hc3.below h.below) rfl ?_)
  obtain ⟨r1, hr3, hF⟩ := qd hF
  refine qp r1 h call183 (qiH (qfl y1 (h.oldS s4) (h.oldS s5)) (h.old ha2) hr3) rfl rfl rfl rfl ?_
  intro w2 h
  refine qb ?_
  refine qu rfl hF ?_ ?_ <;> intro hF
  ·refine zSR (zp2 rfl (qb ?_))
   obtain rfl := qh hF; replace hF := hK1
   exact qaH qc h hF ⟨rfl, trivial⟩
  exact zKER (zp2 rfl (qb (qx m1 [(0, _), (1, _), (7, _), (8, _)] (Nat.lt_succ_self m1) ⟨rfl, rfl, rfl, rfl, trivial⟩ ⟨_, hF, rfl, h⟩)))
 refine qE rfl ?_
 obtain rfl := qh hF; replace hF := hK1
 exact zSR (zp1 rfl (qb (qaH qc h hF ⟨rfl, trivial⟩)))

def qab (n : Nat) (s : (List qZ)) (f_0 : qZ) : Option Bool :=
 (qaE n s f_0).bind fun r1 =>
 some (decide (r1 ≥ 0))

theorem qdK {n : Nat} {w : World} {s : (List qZ)} {f_0 : qZ} {cs1 : List Value} (ha1 : GoT.R w (old w) s cs1) {p2 : Option Addr} (ha2 : GoT.R w (old w) (some f_0) [.pointer p2]) {r : Bool} (hF : qab n s f_0 = some r) : RetV Tryz.prog 103 [GoT.v (List qZ) cs1, .func (.func 183) #[] #[.pointer p2]] w r := by
 obtain ⟨p1, k1, rfl, s1⟩ := ha1
 obtain ⟨b1, o_1, cs2, rfl, -, hr1, hc1⟩ := PtR.get ha2 rfl
 obtain ⟨p3, k2, p4, k3, rfl, s2, s3⟩ := qav hr1
 refine qe Tryz.func103 rfl (m := 9) rfl rfl (fun h => ?_)
 rw [qab] at hF
 refine zSR (zp1 rfl (zNSR (zp2 rfl ?_)))
 obtain ⟨r1, hr2, hF⟩ := qd hF
 refine qT r1 h call141 (qd2 ⟨_, _, rfl, (h.oldS s1)⟩ (h.old ha2) hr2) rfl rfl rfl rfl ?_
 intro w1 h
 exact zp2 rfl (qb (qz qc h hF ⟨rfl, trivial⟩))

def qbl (c : qD) : Nat → Int → Option (Flow Bool Int)
 | 0, _ => none
 | n + 1, i1 =>
  bif decide (i1 < (c.Arcs.length : Int)) then
   (idx c.Arcs i1).bind fun y1 =>
   (qe6 n c y1).bind fun r1 =>
   bif (!r1) then
    some (.ret false)
   else
    (subS c.Arcs 0 i1).bind fun x1 =>
    (qab n x1 y1).bind fun r2 =>
    bif r2 then
     some (.ret false)
    else
     qbl c n (W64 (i1 + 1))
  else
   some (.nxt i1)

def qel (n : Nat) (c : qD) : Option Bool :=
 (qbl c n 0).bind fun o => match o with
 | .ret r => some r
 | .nxt _ =>
  some (decide ((c.Arcs.length : Int) ≤ 8))

theorem qjl {n : Nat} {w : World} {c : qD} {cs1 : List Value} (ha1 : GoT.R w (old w) c cs1) {r : Bool} (hF : qel n c = some r) : RetV Tryz.prog 172 [GoT.v qD cs1] w r := by
 obtain ⟨p1, k1, p2, k2, p3, k3, rfl, s1, s2, s3⟩ := qU ha1
 refine qe Tryz.func172 rfl (m := 30) rfl rfl (fun h => ?_)
 rw [qel] at hF
 refine zSR (qN h rfl rfl ?_)
 intro w1 bb1 h
 refine zp1 rfl (zNSSR (zp1 rfl (zl 0 3 h rfl (zp2 rfl (qb ?_)))))
 obtain ⟨o1, hF, hK1⟩ := qd hF
 refine qw (qP [(1, _), (6, _), (7, _), (8, _)] ⟨rfl, rfl, rfl, rfl, trivial⟩ ?_)
 refine qF (fun m e w' => ∃ (i1 : Int), qbl c m i1 = some o1 ∧ e = [(1, .pointer (some ⟨bb1, 0, none⟩)), (6, .slice p2 c.Arcs.length k2), (7, .int .i64 (c.Arcs.length : Int)), (8, .int .i64 i1)] ∧ SH w w' [Ch.box bb1 [.string c.Name, .int .i64 c.Kind, .slice p1 c.Pins.length k1, .slice p2 c.Arcs.length k2, .slice p3 c.Truth.length k3, .int .i64 c.Leak, .int .i64 c.Energy] 155]) n ⟨_, hF, rfl, h⟩ ?_
 rintro m1 e1 w2 ⟨i1, hF, rfl, h⟩
 rcases m1 with _ | m1
 ·rw [qbl] at hF
  cases hF
 rw [qbl] at hF
 refine zSR (zp1 rfl (zNS ?_))
 refine qu rfl hF ?_ ?_ <;> intro hF
 ·refine zKSBSR (zp1 rfl ?_)
  obtain ⟨y1, hy1, hF⟩ := qd hF
  have he1 := qf hy1
  obtain ⟨b1, o_1, q1, cs2, hp1, hq1, -, hr1, hc2⟩ := s2.at hy1
  obtain ⟨p4, k4, p5, k5, rfl, s4, s5⟩ := qav hr1
  refine zxe hp1 hq1 he1 rfl (zc 0 (hc2.below h.below) rfl (qW qc h rfl rfl rfl ?_))
  intro w3 bb2 h
  refine zp1 rfl (zs 0 h rfl ?_)
  intro w4 h
  refine zNSR (zl 1 0 h rfl (zl 0 0 h rfl ?_))
  obtain ⟨r1, hr2, hF⟩ := qd hF
  refine qp r1 h call182 (qjR (h.old ha1) (qfl y1 (h.oldS s4) (h.oldS s5)) hr2) rfl rfl rfl rfl ?_
  intro w5 h
  refine zp2 rfl ?_
  by_cases hc3 : (!r1) = true
  ·replace hF := bifT hc3 hF
   refine qB hc3 (t := 17) rfl (zn5 rfl (zn1 rfl (zp1 rfl (qb (qeU rfl rfl (zSR ?_))))))
   refine zp1 rfl (qb ?_)
   obtain rfl := qh hF; replace hF := hK1
   exact qz qc h hF ⟨rfl, trivial⟩
  replace hc3 := zb hc3
  replace hF := bifF hc3 hF
  refine qC hc3 (t := 17) rfl (qa rfl (zp1 rfl (qa rfl (zl 1 3 h rfl (qa rfl (zp1 rfl (qa rfl ?_)))))))
  obtain ⟨x1, hx1, hF⟩ := qd hF
  obtain ⟨p6, k6, hp2, hk1, hl1, g1⟩ := qp1 (h.oldS s2) hx1
  refine r_v (qnf qc rfl rfl rfl (qqe g1 rfl) hp2 hk1 hl1 rfl rfl rfl rfl) rfl ?_
  have s6 := qps s2 hx1 hp2 hk1
  refine qa rfl (zp1 rfl (qa rfl ?_))
  obtain ⟨r2, hr3, hF⟩ := qd hF
  refine qp r2 h call103 (qdK ⟨_, _, rfl, (h.oldS s6)⟩ (qhU (x := y1) 0 h rfl (qfl y1 (h.oldS s4) (h.oldS s5))) hr3) rfl rfl rfl rfl ?_
  intro w6 h
  refine zp1 rfl (qb ?_)
  refine qu rfl hF ?_ ?_ <;> intro hF
  ·refine zSR (zp1 rfl (qb ?_))
   obtain rfl := qh hF; replace hF := hK1
   exact qz qc h hF ⟨rfl, trivial⟩
  refine zKER (zp2 rfl (qb ?_))
  replace h := h.pick [1] rfl
  exact qx m1 [(1, _), (6, _), (7, _), (8, _)] (Nat.lt_succ_self m1) ⟨rfl, rfl, rfl, rfl, trivial⟩ ⟨_, hF, rfl, h⟩
 refine qE rfl ?_
 obtain rfl := qh hF; replace hF := hK1
 exact zSR (zp1 rfl (zl 0 3 h rfl (zp3 rfl (qb (qz qc h hF ⟨rfl, trivial⟩)))))

def qf3 (_ : Nat) (a : qZ) (v0 : Int) : Option Bool :=
 some (a.Kind == v0)

theorem qjK {n : Nat} {w : World} {a : qZ} {v0 : Int} {cs1 : List Value} (ha1 : GoT.R w (old w) a cs1) {p3 : Option Addr} (ha2 : GoT.R w (old w) (some v0) [.pointer p3]) {r : Bool} (hF : qf3 n a v0 = some r) : RetV Tryz.prog 202 [GoT.v qZ cs1, .pointer p3] w r := by
 obtain ⟨p1, k1, p2, k2, rfl, s1, s2⟩ := qav ha1
 obtain ⟨b1, o_1, cs2, rfl, -, hr1, hc1⟩ := PtR.get ha2 rfl
 obtain rfl := hr1
 refine qe Tryz.func202 rfl (m := 8) rfl rfl (fun h => ?_)
 rw [qf3] at hF
 refine zSR (qN h rfl rfl ?_)
 intro w1 bb1 h
 exact zp1 rfl (zNSR (zp1 rfl (zl 0 0 h rfl (zc 0 (hc1.below h.below) rfl (zp2 rfl (qb (qz qc h hF ⟨rfl, trivial⟩)))))))

def qM (s : (List qZ)) (f_0 : Int) : Nat → Int → Option (Flow Int Int)
 | 0, _ => none
 | n + 1, i1 =>
  bif decide (i1 < (s.length : Int)) then
   (idx s i1).bind fun y1 =>
   (qf3 n y1 f_0).bind fun r1 =>
   bif r1 then
    some (.ret i1)
   else
    qM s f_0 n (W64 (i1 + 1))
  else
   some (.nxt i1)

def qaV (n : Nat) (s : (List qZ)) (f_0 : Int) : Option Int :=
 (qM s f_0 n 0).bind fun o => match o with
 | .ret r => some r
 | .nxt _ =>
  some (-1)

theorem qeE {n : Nat} {w : World} {s : (List qZ)} {f_0 : Int} {cs1 : List Value} (ha1 : GoT.R w (old w) s cs1) {p2 : Option Addr} (ha2 : GoT.R w (old w) (some f_0) [.pointer p2]) {r : Int} (hF : qaV n s f_0 = some r) : RetV Tryz.prog 141 [GoT.v (List qZ) cs1, .func (.func 202) #[] #[.pointer p2]] w r := by
 obtain ⟨p1, k1, rfl, s1⟩ := ha1
 obtain ⟨b1, o_1, cs2, rfl, -, hr1, hc1⟩ := PtR.get ha2 rfl
 obtain rfl := hr1
 refine qe Tryz.func141 rfl (m := 19) rfl rfl (fun h => ?_)
 rw [qaV] at hF
 refine zSR (zp1 rfl (zNSSR (zp3 rfl (qb ?_))))
 obtain ⟨o1, hF, hK1⟩ := qd hF
 refine qw (qP [(0, _), (1, _), (7, _), (8, _)] ⟨rfl, rfl, rfl, rfl, trivial⟩ ?_)
 refine qF (fun m e w' => ∃ (i1 : Int), qM s f_0 m i1 = some o1 ∧ e = [(0, .slice p1 s.length k1), (1, .func (.func 202) #[] #[.pointer (some ⟨b1, o_1, none⟩)]), (7, .int .i64 (s.length : Int)), (8, .int .i64 i1)] ∧ SH w w' []) n ⟨_, hF, rfl, h⟩ ?_
 rintro m1 e1 w1 ⟨i1, hF, rfl, h⟩
 rcases m1 with _ | m1
 ·rw [qM] at hF
  cases hF
 rw [qM] at hF
 refine zSR (zp1 rfl (zNS ?_))
 refine qu rfl hF ?_ ?_ <;> intro hF
 ·refine zKSBSR (zp2 rfl (zNSR (zp2 rfl ?_)))
  refine zp1 rfl ?_
  obtain ⟨y1, hy1, hF⟩ := qd hF
  have he1 := qf hy1
  obtain ⟨b2, o_2, q1, cs3, hp1, hq1, -, hr2, hc3⟩ := s1.at hy1
  obtain ⟨p3, k2, p4, k3, rfl, s2, s3⟩ := qav hr2
  refine zxe hp1 hq1 he1 rfl (zc 0 (hc3.below h.below) rfl ?_)
  obtain ⟨r1, hr3, hF⟩ := qd hF
  refine qp r1 h call202 (qjK (qfl y1 (h.oldS s2) (h.oldS s3)) (h.old ha2) hr3) rfl rfl rfl rfl ?_
  intro w2 h
  refine qb ?_
  refine qu rfl hF ?_ ?_ <;> intro hF
  ·refine zSR (zp2 rfl (qb ?_))
   obtain rfl := qh hF; replace hF := hK1
   exact qaH qc h hF ⟨rfl, trivial⟩
  exact zKER (zp2 rfl (qb (qx m1 [(0, _), (1, _), (7, _), (8, _)] (Nat.lt_succ_self m1) ⟨rfl, rfl, rfl, rfl, trivial⟩ ⟨_, hF, rfl, h⟩)))
 refine qE rfl ?_
 obtain rfl := qh hF; replace hF := hK1
 exact zSR (zp1 rfl (qb (qaH qc h hF ⟨rfl, trivial⟩)))

def qaF (n : Nat) (s : (List qZ)) (f_0 : Int) : Option Bool :=
 (qaV n s f_0).bind fun r1 =>
 some (decide (r1 ≥ 0))

theorem qem {n : Nat} {w : World} {s : (List qZ)} {f_0 : Int} {cs1 : List Value} (ha1 : GoT.R w (old w) s cs1) {p2 : Option Addr} (ha2 : GoT.R w (old w) (some f_0) [.pointer p2]) {r : Bool} (hF : qaF n s f_0 = some r) : RetV Tryz.prog 103 [GoT.v (List qZ) cs1, .func (.func 202) #[] #[.pointer p2]] w r := by
 obtain ⟨p1, k1, rfl, s1⟩ := ha1
 obtain ⟨b1, o_1, cs2, rfl, -, hr1, hc1⟩ := PtR.get ha2 rfl
 obtain rfl := hr1
 refine qe Tryz.func103 rfl (m := 9) rfl rfl (fun h => ?_)
 rw [qaF] at hF
 refine zSR (zp1 rfl (zNSR (zp2 rfl ?_)))
 obtain ⟨r1, hr2, hF⟩ := qd hF
 refine qT r1 h call141 (qeE ⟨_, _, rfl, (h.oldS s1)⟩ (h.old ha2) hr2) rfl rfl rfl rfl ?_
 intro w1 h
 exact zp2 rfl (qb (qz qc h hF ⟨rfl, trivial⟩))

def qcw (n : Nat) (c : qD) (kind : Int) : Option Bool :=
 (qaF n c.Arcs kind).bind fun r1 =>
 some r1

theorem qdJ {n : Nat} {w : World} {c : qD} {kind : Int} {cs1 : List Value} (ha1 : GoT.R w (old w) c cs1) {r : Bool} (hF : qcw n c kind = some r) : RetV Tryz.prog 184 [GoT.v qD cs1, .int .i64 kind] w r := by
 obtain ⟨p1, k1, p2, k2, p3, k3, rfl, s1, s2, s3⟩ := qU ha1
 refine qe Tryz.func184 rfl (m := 9) rfl rfl (fun h => ?_)
 rw [qcw] at hF
 refine zSR (qN h rfl rfl ?_)
 intro w1 bb1 h
 refine qN h rfl rfl ?_
 intro w2 bb2 h
 refine zp1 rfl (zNSR (zp1 rfl (zl 1 3 h rfl (zp1 rfl ?_))))
 obtain ⟨r1, hr1, hF⟩ := qd hF
 refine qp r1 h call103 (qem ⟨_, _, rfl, (h.oldS s2)⟩ (qhU (x := kind) 0 h rfl rfl) hr1) rfl rfl rfl rfl ?_
 intro w3 h
 exact zp1 rfl (qb (qz qc h hF ⟨rfl, trivial⟩))

def qaJ (a_0 : qD) : Nat → Int → Int → Option (Int × Int)
 | 0, _, _ => none
 | n + 1, i1, i2 =>
  bif decide (i2 < (a_0.Pins.length : Int)) then
   (idx a_0.Pins i2).bind fun y1 =>
   bif y1.Clock then
    qaJ a_0 n (W64 (i1 + 1)) (W64 (i2 + 1))
   else
    qaJ a_0 n i1 (W64 (i2 + 1))
  else
   some (i1, i2)

def qdT (n : Nat) (a_0 : qD) : Option Bool :=
 (qaJ a_0 n 0 0).bind fun o => match o with
 | (i1, _) =>
  bif (a_0.Kind == 1) then
   bif (i1 == 0) then
    (qbT n a_0).bind fun r1 =>
    (shlS 1 r1).bind fun y2 =>
    bif ((a_0.Truth.length : Int) == y2) then
     (qb6 n a_0.Truth 0 1).bind fun r2 =>
     some r2
    else
     some false
   else
    some false
  else
   bif (a_0.Kind == 2) then
    bif (i1 == 1) then
     bif ((a_0.Truth.length : Int) == 0) then
      (qcw n a_0 1).bind fun r3 =>
      bif (!r3) then
       (qcw n a_0 2).bind fun r4 =>
       (qcw n a_0 3).bind fun r5 =>
       some (!(r4 == r5))
      else
       some false
     else
      some false
    else
     some false
   else
    bif (a_0.Kind == 3) then
     bif (i1 == 1) then
      bif ((a_0.Truth.length : Int) == 0) then
       (qcw n a_0 1).bind fun r6 =>
       bif r6 then
        (qcw n a_0 2).bind fun r7 =>
        bif r7 then
         (qcw n a_0 3).bind fun r8 =>
         some (!r8)
        else
         some false
       else
        some false
      else
       some false
     else
      some false
    else
     some false

theorem qiP {n : Nat} {w : World} {a_0 : qD} {cs1 : List Value} (ha1 : GoT.R w (old w) a_0 cs1) {r : Bool} (hF : qdT n a_0 = some r) : RetV Tryz.prog 173 [GoT.v qD cs1] w r := by
 obtain ⟨p1, k1, p2, k2, p3, k3, rfl, s1, s2, s3⟩ := qU ha1
 refine qe Tryz.func173 rfl (m := 83) rfl rfl (fun h => ?_)
 rw [qdT] at hF
 refine zSR (qN h rfl rfl ?_)
 intro w1 bb1 h
 refine zp1 rfl (zNSR (zp1 rfl (zNSSR (zp1 rfl (zl 0 2 h rfl (zp1 rfl ?_))))))
 refine zp1 rfl (qb ?_)
 obtain ⟨o1, hF, hK1⟩ := qd hF
 refine qw (qP [(1, _), (3, _), (7, _), (8, _), (9, _)] ⟨rfl, rfl, rfl, rfl, rfl, trivial⟩ ?_)
 refine qF (fun m e w' => ∃ (i1 : Int) (i2 : Int), qaJ a_0 m i1 i2 = some o1 ∧ e = [(1, .pointer (some ⟨bb1, 0, none⟩)), (3, .int .i64 i1), (7, .slice p1 a_0.Pins.length k1), (8, .int .i64 (a_0.Pins.length : Int)), (9, .int .i64 i2)] ∧ SH w w' [Ch.box bb1 [.string a_0.Name, .int .i64 a_0.Kind, .slice p1 a_0.Pins.length k1, .slice p2 a_0.Arcs.length k2, .slice p3 a_0.Truth.length k3, .int .i64 a_0.Leak, .int .i64 a_0.Energy] 155]) n ⟨_, _, hF, rfl, h⟩ ?_
 rintro m1 e1 w2 ⟨i1, i2, hF, rfl, h⟩
 rcases m1 with _ | m1
 ·rw [qaJ] at hF
  cases hF
 rw [qaJ] at hF
 refine zSR (zp1 rfl (zNS ?_))
 refine qu rfl hF ?_ ?_ <;> intro hF
 ·refine zKSBSR ?_
  obtain ⟨y1, hy1, hF⟩ := qd hF
  have he1 := qf hy1
  obtain ⟨b1, o_1, q1, cs2, hp1, hq1, -, hr1, hc2⟩ := s1.at hy1
  obtain rfl := qbg hr1
  refine zxe hp1 hq1 he1 rfl (zc 0 (hc2.below h.below) rfl (qW qc h rfl rfl rfl ?_))
  intro w3 bb2 h
  refine zs 0 h rfl ?_
  intro w4 h
  refine zNSR (zp1 rfl (zl 0 3 h rfl (qb ?_)))
  refine qu rfl hF ?_ ?_ <;> intro hF
  ·refine qA (zp3 rfl (zNER (zp2 rfl (qb ?_))))
   replace h := h.pick [1] rfl
   exact qx m1 [(1, _), (3, _), (7, _), (8, _), (9, _)] (Nat.lt_succ_self m1) ⟨rfl, rfl, rfl, rfl, rfl, trivial⟩ ⟨_, _, hF, rfl, h⟩
  refine zKER (zp2 rfl (qb ?_))
  replace h := h.pick [1] rfl
  exact qx m1 [(1, _), (3, _), (7, _), (8, _), (9, _)] (Nat.lt_succ_self m1) ⟨rfl, rfl, rfl, rfl, rfl, trivial⟩ ⟨_, _, hF, rfl, h⟩
 refine qE rfl ?_
 obtain rfl := qh hF; replace hF := hK1
 refine zSSR (zp1 rfl (zl 0 1 h rfl (qb (zBSR (zp2 rfl (qb ?_))))))
 refine qu rfl hF ?_ ?_ <;> intro hF
 ·refine qbd ?_
  refine qcA rfl (by kernel_rfl) ?_
  refine zd3 rfl ?_
  by_cases hc5 : (i1 == 0) = true
  ·replace hF := bifT hc5 hF
   refine qcC hc5 (t := 24) rfl (qg rfl (zd1 rfl (qg rfl ?_)))
   refine zdl 0 4 h rfl ?_
   refine qg rfl (zd1 rfl (qg rfl ?_))
   refine zdl 0 0 h rfl ?_
   refine qg rfl ?_
   obtain ⟨r1, hr2, hF⟩ := qd hF
   refine qcD r1 (vsI _) call106 (fun _ hb => qey ((h.ext hb).old ha1) hr2) rfl rfl rfl rfl ?_
   refine qg rfl ?_
   obtain ⟨y2, hx1, hF⟩ := qd hF
   obtain ⟨g1, hx1⟩ := qmr hx1
   refine d_v (fun _ hb => qqX g1 rfl rfl) rfl ?_
   rw [hx1]
   refine qg rfl (zd3 rfl ?_)
   by_cases hc6 : ((a_0.Truth.length : Int) == y2) = true
   ·replace hF := bifT hc6 hF
    refine qcC hc6 (t := 33) rfl (qg rfl (zd1 rfl (qg rfl ?_)))
    refine zdl 0 4 h rfl ?_
    refine qg rfl ?_
    obtain ⟨r2, hr3, hF⟩ := qd hF
    refine qcD r2 (vsB _) call82 (fun _ hb => qds ⟨_, _, rfl, ((h.ext hb).oldS s3)⟩ hr3) rfl rfl rfl rfl ?_
    refine zd2 rfl ?_
    refine qbb (fun w5 hb => ?_)
    replace h := h.ext hb
    clear hb
    exact qz qc h hF ⟨rfl, trivial⟩
   replace hc6 := zb hc6
   replace hF := bifF hc6 hF
   refine qcy hc6 (t := 33) rfl (qk rfl rfl rfl (qk rfl rfl rfl (qk rfl rfl rfl (zd2 rfl ?_))))
   refine qbb (fun w6 hb => ?_)
   replace h := h.ext hb
   clear hb
   exact qz qc h hF ⟨rfl, trivial⟩
  replace hc5 := zb hc5
  replace hF := bifF hc5 hF
  refine qcy hc5 (t := 24) rfl (qk rfl rfl rfl (qk rfl rfl rfl (qk rfl rfl rfl (qk rfl rfl rfl (qk rfl rfl rfl (qk rfl rfl rfl (qk rfl rfl rfl (zd2 rfl (qk rfl rfl rfl (qk rfl rfl rfl ?_))))))))))
  refine qk rfl rfl rfl (zd2 rfl ?_)
  refine qbb (fun w7 hb => ?_)
  replace h := h.ext hb
  clear hb
  exact qz qc h hF ⟨rfl, trivial⟩
 refine zSR (zp2 rfl (qb ?_))
 refine qu rfl hF ?_ ?_ <;> intro hF
 ·refine qbd ?_
  refine qcA rfl (by kernel_rfl) ?_
  refine zd3 rfl ?_
  by_cases hc8 : (i1 == 1) = true
  ·replace hF := bifT hc8 hF
   refine qcC hc8 (t := 42) rfl (qg rfl (zd1 rfl (qg rfl ?_)))
   refine zdl 0 4 h rfl ?_
   refine qg rfl (zd1 rfl (qg rfl (zd3 rfl ?_)))
   by_cases hc9 : ((a_0.Truth.length : Int) == 0) = true
   ·replace hF := bifT hc9 hF
    refine qcC hc9 (t := 48) rfl (qg rfl ?_)
    refine zdl 0 0 h rfl ?_
    refine qg rfl ?_
    obtain ⟨r3, hr4, hF⟩ := qd hF
    refine qcD r3 (vsB _) call184 (fun _ hb => qdJ ((h.ext hb).old ha1) hr4) rfl rfl rfl rfl ?_
    refine qg rfl (zd3 rfl ?_)
    by_cases hc10 : (!r3) = true
    ·replace hF := bifT hc10 hF
     refine qcC hc10 (t := 53) rfl (qg rfl ?_)
     refine zdl 0 0 h rfl ?_
     refine qg rfl ?_
     obtain ⟨r4, hr5, hF⟩ := qd hF
     refine qcD r4 (vsB _) call184 (fun _ hb => qdJ ((h.ext hb).old ha1) hr5) rfl rfl rfl rfl ?_
     refine qg rfl ?_
     refine zdl 0 0 h rfl ?_
     refine qg rfl ?_
     obtain ⟨r5, hr6, hF⟩ := qd hF
     refine qcD r5 (vsB _) call184 (fun _ hb => qdJ ((h.ext hb).old ha1) hr6) rfl rfl rfl rfl ?_
     refine qg rfl (zd3 rfl ?_)
     refine qbb (fun w8 hb => ?_)
     replace h := h.ext hb
     clear hb
     exact qz qc h hF ⟨rfl, trivial⟩
    replace hc10 := zb hc10
    replace hF := bifF hc10 hF
    refine qcy hc10 (t := 53) rfl (qk rfl rfl rfl (qk rfl rfl rfl (qk rfl rfl rfl (qk rfl rfl rfl (qk rfl rfl rfl (zd2 rfl ?_))))))
    refine qbb (fun w9 hb => ?_)
    replace h := h.ext hb
    clear hb
    exact qz qc h hF ⟨rfl, trivial⟩
   replace hc9 := zb hc9
   replace hF := bifF hc9 hF
   refine qcy hc9 (t := 48) rfl (qk rfl rfl rfl (qk rfl rfl rfl (qk rfl rfl rfl (zd2 rfl (qk rfl rfl rfl (qk rfl rfl rfl (qk rfl rfl rfl (qk rfl rfl rfl (qk rfl rfl rfl (zd1 rfl ?_))))))))))
   refine zd1 rfl ?_
   refine qbb (fun w10 hb => ?_)
   replace h := h.ext hb
   clear hb
   exact qz qc h hF ⟨rfl, trivial⟩
  replace hc8 := zb hc8
  replace hF := bifF hc8 hF
  refine qcy hc8 (t := 42) rfl (qk rfl rfl rfl (qk rfl rfl rfl (qk rfl rfl rfl (qk rfl rfl rfl (zd2 rfl (qk rfl rfl rfl (qk rfl rfl rfl (qk rfl rfl rfl (zd2 rfl ?_)))))))))
  refine qk rfl rfl rfl (qk rfl rfl rfl (qk rfl rfl rfl (qk rfl rfl rfl (qk rfl rfl rfl (zd2 rfl ?_)))))
  refine qbb (fun w11 hb => ?_)
  replace h := h.ext hb
  clear hb
  exact qz qc h hF ⟨rfl, trivial⟩
 refine zSR (zp2 rfl (qb ?_))
 refine qu rfl hF ?_ ?_ <;> intro hF
 ·refine zSR (zp3 rfl ?_)
  by_cases hc12 : (i1 == 1) = true
  ·replace hF := bifT hc12 hF
   refine qB hc12 (t := 64) rfl (qa rfl (zp1 rfl (qa rfl (zl 0 4 h rfl (qa rfl (zp1 rfl (qa rfl (zp3 rfl ?_))))))))
   by_cases hc13 : ((a_0.Truth.length : Int) == 0) = true
   ·replace hF := bifT hc13 hF
    refine qB hc13 (t := 70) rfl (qa rfl (zl 0 0 h rfl (qa rfl ?_)))
    obtain ⟨r6, hr7, hF⟩ := qd hF
    refine qp r6 h call184 (qdJ (h.old ha1) hr7) rfl rfl rfl rfl ?_
    intro w12 h
    refine zp2 rfl ?_
    by_cases hc14 : r6 = true
    ·replace hF := bifT hc14 hF
     refine qB hc14 (t := 74) rfl (qa rfl (zl 0 0 h rfl (qa rfl ?_)))
     obtain ⟨r7, hr8, hF⟩ := qd hF
     refine qp r7 h call184 (qdJ (h.old ha1) hr8) rfl rfl rfl rfl ?_
     intro w13 h
     refine zp2 rfl ?_
     by_cases hc15 : r7 = true
     ·replace hF := bifT hc15 hF
      refine qB hc15 (t := 78) rfl (qa rfl (zl 0 0 h rfl (qa rfl ?_)))
      obtain ⟨r8, hr9, hF⟩ := qd hF
      refine qp r8 h call184 (qdJ (h.old ha1) hr9) rfl rfl rfl rfl ?_
      intro w14 h
      exact qa rfl (zp3 rfl (qb (qz qc h hF ⟨rfl, trivial⟩)))
     replace hc15 := zb hc15
     replace hF := bifF hc15 hF
     exact qC hc15 (t := 78) rfl (zn3 rfl (zp2 rfl (qb (qz qc h hF ⟨rfl, trivial⟩))))
    replace hc14 := zb hc14
    replace hF := bifF hc14 hF
    exact qC hc14 (t := 74) rfl (zn2 rfl (zp2 rfl (zn3 rfl (zp2 rfl (qb (qz qc h hF ⟨rfl, trivial⟩))))))
   replace hc13 := zb hc13
   replace hF := bifF hc13 hF
   refine qC hc13 (t := 70) rfl (zn2 rfl (zp2 rfl (zn2 rfl (zp2 rfl (zn3 rfl ?_)))))
   exact zp2 rfl (qb (qz qc h hF ⟨rfl, trivial⟩))
  replace hc12 := zb hc12
  replace hF := bifF hc12 hF
  refine qC hc12 (t := 64) rfl (zn4 rfl (zp2 rfl (zn2 rfl (zp2 rfl (zn1 rfl ?_)))))
  exact zn1 rfl (zp2 rfl (zn3 rfl (zp2 rfl (qb (qz qc h hF ⟨rfl, trivial⟩)))))
 exact zKE (zSR (zp1 rfl (qb (qz qc h hF ⟨rfl, trivial⟩))))

def qhh (n : Nat) (c : qD) : Option Bool :=
 (qgr n c.Name).bind fun r1 =>
 bif r1 then
  (qgz n c.Pins).bind fun r2 =>
  bif r2 then
   (qel n c).bind fun r3 =>
   bif r3 then
    (qba n c.Leak 0 100000).bind fun r4 =>
    bif r4 then
     (qba n c.Energy 0 100000).bind fun r5 =>
     bif r5 then
      (qdT n c).bind fun r6 =>
      some r6
     else
      some false
    else
     some false
   else
    some false
  else
   some false
 else
  some false

theorem qlw {n : Nat} {w : World} {c : qD} {cs1 : List Value} (ha1 : GoT.R w (old w) c cs1) {r : Bool} (hF : qhh n c = some r) : RetV Tryz.prog 153 [GoT.v qD cs1] w r := by
 obtain ⟨p1, k1, p2, k2, p3, k3, rfl, s1, s2, s3⟩ := qU ha1
 refine qe Tryz.func153 rfl (m := 29) rfl rfl (fun h => ?_)
 rw [qhh] at hF
 refine zSR (qN h rfl rfl ?_)
 intro w1 bb1 h
 refine zp1 rfl (zNSR (zp1 rfl (zl 0 0 h rfl ?_)))
 obtain ⟨r1, hr1, hF⟩ := qd hF
 refine qp r1 h call170 (qi9 hr1) rfl rfl rfl rfl ?_
 intro w2 h
 refine zp1 rfl ?_
 by_cases hc1 : r1 = true
 ·replace hF := bifT hc1 hF
  refine qB hc1 (t := 6) rfl (qa rfl (zp1 rfl (qa rfl (zl 0 2 h rfl (qa rfl ?_)))))
  obtain ⟨r2, hr2, hF⟩ := qd hF
  refine qp r2 h call171 (qk7 ⟨_, _, rfl, (h.oldS s1)⟩ hr2) rfl rfl rfl rfl ?_
  intro w3 h
  refine zp2 rfl ?_
  by_cases hc2 : r2 = true
  ·replace hF := bifT hc2 hF
   refine qB hc2 (t := 11) rfl (qa rfl (zl 0 0 h rfl (qa rfl ?_)))
   obtain ⟨r3, hr3, hF⟩ := qd hF
   refine qp r3 h call172 (qjl (h.old ha1) hr3) rfl rfl rfl rfl ?_
   intro w4 h
   refine zp2 rfl ?_
   by_cases hc3 : r3 = true
   ·replace hF := bifT hc3 hF
    refine qB hc3 (t := 15) rfl (qa rfl (zp1 rfl (qa rfl (zl 0 5 h rfl (qa rfl ?_)))))
    obtain ⟨r4, hr4, hF⟩ := qd hF
    refine qp r4 h call100 (qaW hr4) rfl rfl rfl rfl ?_
    intro w5 h
    refine zp2 rfl ?_
    by_cases hc4 : r4 = true
    ·replace hF := bifT hc4 hF
     refine qB hc4 (t := 20) rfl (qa rfl (zp1 rfl (qa rfl (zl 0 6 h rfl (qa rfl ?_)))))
     obtain ⟨r5, hr5, hF⟩ := qd hF
     refine qp r5 h call100 (qaW hr5) rfl rfl rfl rfl ?_
     intro w6 h
     refine zp2 rfl ?_
     by_cases hc5 : r5 = true
     ·replace hF := bifT hc5 hF
      refine qB hc5 (t := 25) rfl (qa rfl (zl 0 0 h rfl (qa rfl ?_)))
      obtain ⟨r6, hr6, hF⟩ := qd hF
      refine qp r6 h call173 (qiP (h.old ha1) hr6) rfl rfl rfl rfl ?_
      intro w7 h
      exact zp2 rfl (qb (qz qc h hF ⟨rfl, trivial⟩))
     replace hc5 := zb hc5
     replace hF := bifF hc5 hF
     exact qC hc5 (t := 25) rfl (zn2 rfl (zp2 rfl (qb (qz qc h hF ⟨rfl, trivial⟩))))
    replace hc4 := zb hc4
    replace hF := bifF hc4 hF
    exact qC hc4 (t := 20) rfl (zn3 rfl (zp2 rfl (zn2 rfl (zp2 rfl (qb (qz qc h hF ⟨rfl, trivial⟩))))))
   replace hc3 := zb hc3
   replace hF := bifF hc3 hF
   refine qC hc3 (t := 15) rfl (zn3 rfl (zp2 rfl (zn3 rfl (zp2 rfl (zn1 rfl ?_)))))
   exact zn1 rfl (zp2 rfl (qb (qz qc h hF ⟨rfl, trivial⟩)))
  replace hc2 := zb hc2
  replace hF := bifF hc2 hF
  refine qC hc2 (t := 11) rfl (zn2 rfl (zp2 rfl (zn3 rfl (zp2 rfl (zn2 rfl ?_)))))
  exact zn1 rfl (zp2 rfl (zn2 rfl (zp2 rfl (qb (qz qc h hF ⟨rfl, trivial⟩)))))
 replace hc1 := zb hc1
 replace hF := bifF hc1 hF
 refine qC hc1 (t := 6) rfl (zn3 rfl (zp2 rfl (zn2 rfl (zp2 rfl (zn2 rfl ?_)))))
 refine zn1 rfl (zp2 rfl (zn3 rfl (zp2 rfl (zn2 rfl (zp2 rfl ?_)))))
 exact qb (qz qc h hF ⟨rfl, trivial⟩)

def qbz (l : qv) : Nat → (List ByteArray) → Int → Option (Flow Bool ((List ByteArray) × Int))
 | 0, _, _ => none
 | n + 1, x1, i1 =>
  bif decide (i1 < (l.Cells.length : Int)) then
   (idx l.Cells i1).bind fun y1 =>
   (qhh n y1).bind fun r1 =>
   bif (!r1) then
    some (.ret false)
   else
    (appS x1 ([y1.Name] : List ByteArray)).bind fun x2 =>
    qbz l n x2 (W64 (i1 + 1))
  else
   some (.nxt (x1, i1))

def qfo (n : Nat) (l : qv) : Option Bool :=
 (qbz l n ([] : List ByteArray) 0).bind fun o => match o with
 | .ret r => some r
 | .nxt (x1, _) =>
  bif decide ((l.Cells.length : Int) ≤ 8) then
   (qc8 n x1).bind fun r2 =>
   some r2
  else
   some false

theorem qkh {n : Nat} {w : World} {l : qv} {cs1 : List Value} (ha1 : GoT.R w (old w) l cs1) {r : Bool} (hF : qfo n l = some r) : RetV Tryz.prog 124 [GoT.v qv cs1] w r := by
 obtain ⟨p1, k1, rfl, s1⟩ := qbh ha1
 refine qe Tryz.func124 rfl (m := 30) rfl rfl (fun h => ?_)
 rw [qfo] at hF
 refine zSR (qN h rfl rfl ?_)
 intro w1 bb1 h
 refine zp1 rfl (zNSR (zp1 rfl (zNSSR (zp1 rfl (zl 0 0 h rfl (zp1 rfl ?_))))))
 refine zp1 rfl (qb ?_)
 replace h := h.nil (α := ByteArray)
 obtain ⟨o1, hF, hK1⟩ := qd hF
 refine qw (qP [(1, _), (3, _), (7, _), (8, _), (9, _)] ⟨rfl, rfl, rfl, rfl, rfl, trivial⟩ ?_)
 refine qF (fun m e w' => ∃ (S1 : Nat → Prop) (p2 : Option Addr) (ln1 : Nat) (k2 : Nat) (x1 : (List ByteArray)) (i1 : Int), qbz l m x1 i1 = some o1 ∧ e = [(1, .pointer (some ⟨bb1, 0, none⟩)), (3, .slice p2 ln1 k2), (7, .slice p1 l.Cells.length k1), (8, .int .i64 (l.Cells.length : Int)), (9, .int .i64 i1)] ∧ SH w w' [Ch.own S1 (x1 : List ByteArray) [.slice p2 ln1 k2], Ch.box bb1 [.slice p1 l.Cells.length k1] 41]) n ⟨_, _, _, _, _, _, hF, rfl, h⟩ ?_
 rintro m1 e1 w2 ⟨S1, p2, ln1, k2, x1, i1, hF, rfl, h⟩
 obtain rfl := (h.sl 0 rfl).2
 rcases m1 with _ | m1
 ·rw [qbz] at hF
  cases hF
 rw [qbz] at hF
 refine zSR (zp1 rfl (zNS ?_))
 refine qu rfl hF ?_ ?_ <;> intro hF
 ·refine zKSBSR ?_
  obtain ⟨y1, hy1, hF⟩ := qd hF
  have he1 := qf hy1
  obtain ⟨b1, o_1, q1, cs2, hp1, hq1, -, hr1, hc2⟩ := s1.at hy1
  obtain ⟨p3, k3, p4, k4, p5, k5, rfl, s2, s3, s4⟩ := qU hr1
  refine zxe hp1 hq1 he1 rfl (zc 0 (hc2.below h.below) rfl (qW qc h rfl rfl rfl ?_))
  intro w3 bb2 h
  refine zs 0 h rfl ?_
  intro w4 h
  replace h : SH _ _ [Ch.box bb2 [.string y1.Name, .int .i64 y1.Kind, .slice p3 y1.Pins.length k3, .slice p4 y1.Arcs.length k4, .slice p5 y1.Truth.length k5, .int .i64 y1.Leak, .int .i64 y1.Energy] 155, Ch.own S1 (x1 : List ByteArray) [.slice p2 x1.length k2], Ch.box bb1 [.slice p1 l.Cells.length k1] 41] := h
  refine zNSSR (zl 0 0 h rfl ?_)
  obtain ⟨r1, hr2, hF⟩ := qd hF
  refine qp r1 h call153 (qlw (qgi y1 (h.oldS s2) (h.oldS s3) (h.oldS s4)) hr2) rfl rfl rfl rfl ?_
  intro w5 h
  refine zp1 rfl (qb ?_)
  refine qu rfl hF ?_ ?_ <;> intro hF
  ·refine zSR (zp1 rfl (qb ?_))
   obtain rfl := qh hF; replace hF := hK1
   exact qz qc h hF ⟨rfl, trivial⟩
  refine qeq (qA (zp2 rfl (zl 0 0 h rfl (qat qc [.tmp 18] _ ([y1.Name] : List ByteArray) h rfl rfl rfl rfl rfl rfl rfl rfl rfl ⟨rfl, trivial⟩ rfl ?_))))
  intro w6 p6 S2 h
  obtain ⟨x2, hx1, hF⟩ := qd hF
  obtain ⟨g1, hx1⟩ := qa4 hx1
  refine qdG qc 2 h rfl (h.sl 0 rfl).1 (h.sl 0 rfl).2 rfl rfl rfl rfl rfl rfl rfl rfl rfl g1 hx1 rfl ?_
  intro w7 p7 k6 S3 h
  refine zp1 rfl (zNER (zp2 rfl (qb ?_)))
  replace h := h.pick [2, 3] rfl
  exact qx m1 [(1, _), (3, _), (7, _), (8, _), (9, _)] (Nat.lt_succ_self m1) ⟨rfl, rfl, rfl, rfl, rfl, trivial⟩ ⟨_, _, _, _, _, _, hF, rfl, h⟩
 refine qE rfl ?_
 obtain rfl := qh hF; replace hF := hK1
 refine zSR (zp1 rfl (zl 1 0 h rfl (zp3 rfl ?_)))
 by_cases hc4 : (decide ((l.Cells.length : Int) ≤ 8)) = true
 ·replace hF := bifT hc4 hF
  refine qB hc4 (t := 26) rfl (qa rfl (zp1 rfl (qa rfl ?_)))
  obtain ⟨r2, hr3, hF⟩ := qd hF
  refine qp r2 h call154 (qeM (h.own 0 rfl) hr3) rfl rfl rfl rfl ?_
  intro w8 h
  exact zp2 rfl (qb (qz qc h hF ⟨rfl, trivial⟩))
 replace hc4 := zb hc4
 replace hF := bifF hc4 hF
 exact qC hc4 (t := 26) rfl (zn2 rfl (zp2 rfl (qb (qz qc h hF ⟨rfl, trivial⟩))))

def qaG (d : qj) : Nat → (List ByteArray) → Int → Option ((List ByteArray) × Int)
 | 0, _, _ => none
 | n + 1, x3, i2 =>
  bif decide (i2 < (d.Ports.length : Int)) then
   (idx d.Ports i2).bind fun y2 =>
   (appS x3 ([y2.Name] : List ByteArray)).bind fun x4 =>
   qaG d n x4 (W64 (i2 + 1))
  else
   some (x3, i2)

def qaI (d : qj) : Nat → (List ByteArray) → Int → Option ((List ByteArray) × Int)
 | 0, _, _ => none
 | n + 1, x1, i1 =>
  bif decide (i1 < (d.Instances.length : Int)) then
   (idx d.Instances i1).bind fun y1 =>
   (appS x1 ([y1.Name] : List ByteArray)).bind fun x2 =>
   qaI d n x2 (W64 (i1 + 1))
  else
   some (x1, i1)

def qdg (n : Nat) (d : qj) : Option Bool :=
 (qaI d n ([] : List ByteArray) 0).bind fun o => match o with
 | (x1, _) =>
  (qaG d n ([] : List ByteArray) 0).bind fun o => match o with
  | (x3, _) =>
   bif decide ((x1.length : Int) ≤ 14) then
    bif decide ((d.Nets.length : Int) ≤ 30) then
     bif decide ((x3.length : Int) ≤ 8) then
      (qc8 n x1).bind fun r1 =>
      bif r1 then
       (qc8 n d.Nets).bind fun r2 =>
       bif r2 then
        (qc8 n x3).bind fun r3 =>
        some r3
       else
        some false
      else
       some false
     else
      some false
    else
     some false
   else
    some false

theorem qii {n : Nat} {w : World} {d : qj} {cs1 : List Value} (ha1 : GoT.R w (old w) d cs1) {r : Bool} (hF : qdg n d = some r) : RetV Tryz.prog 125 [GoT.v qj cs1] w r := by
 obtain ⟨p1, k1, p2, k2, p3, k3, rfl, s1, s2, s3⟩ := qao ha1
 refine qe Tryz.func125 rfl (m := 62) rfl rfl (fun h => ?_)
 rw [qdg] at hF
 refine zSR (qN h rfl rfl ?_)
 intro w1 bb1 h
 refine zp1 rfl (zNSR (zp2 rfl (zNSSR (zp1 rfl (zl 0 0 h rfl ?_)))))
 refine zp2 rfl (qb ?_)
 replace h := h.nil (α := ByteArray)
 obtain ⟨o1, hF, hK1⟩ := qd hF
 refine qw (qP [(1, _), (3, _), (4, _), (10, _), (11, _), (12, _)] ⟨rfl, rfl, rfl, rfl, rfl, rfl, trivial⟩ ?_)
 refine qF (fun m e w' => ∃ (S1 : Nat → Prop) (p4 : Option Addr) (ln1 : Nat) (k4 : Nat) (x1 : (List ByteArray)) (i1 : Int), qaI d m x1 i1 = some o1 ∧ e = [(1, .pointer (some ⟨bb1, 0, none⟩)), (3, .slice p4 ln1 k4), (4, .slice none 0 0), (10, .slice p1 d.Instances.length k1), (11, .int .i64 (d.Instances.length : Int)), (12, .int .i64 i1)] ∧ SH w w' [Ch.own S1 (x1 : List ByteArray) [.slice p4 ln1 k4], Ch.box bb1 [.slice p1 d.Instances.length k1, .slice p2 d.Nets.length k2, .slice p3 d.Ports.length k3] 45]) n ⟨_, _, _, _, _, _, hF, rfl, h⟩ ?_
 rintro m1 e1 w2 ⟨S1, p4, ln1, k4, x1, i1, hF, rfl, h⟩
 obtain rfl := (h.sl 0 rfl).2
 rcases m1 with _ | m1
 ·rw [qaI] at hF
  cases hF
 rw [qaI] at hF
 refine zSR (zp1 rfl (zNS ?_))
 refine qu rfl hF ?_ ?_ <;> intro hF
 ·refine zKSBSR ?_
  obtain ⟨y1, hy1, hF⟩ := qd hF
  have he1 := qf hy1
  obtain ⟨b1, o_1, q1, cs2, hp1, hq1, -, hr1, hc2⟩ := s1.at hy1
  obtain ⟨p5, k5, rfl, s4⟩ := qV hr1
  refine zxe hp1 hq1 he1 rfl (zc 0 (hc2.below h.below) rfl (qW qc h rfl rfl rfl ?_))
  intro w3 bb2 h
  refine zs 0 h rfl ?_
  intro w4 h
  replace h : SH _ _ [Ch.box bb2 [.string y1.Name, .int .i64 y1.Cell, .slice p5 y1.Nets.length k5] 126, Ch.own S1 (x1 : List ByteArray) [.slice p4 x1.length k4], Ch.box bb1 [.slice p1 d.Instances.length k1, .slice p2 d.Nets.length k2, .slice p3 d.Ports.length k3] 45] := h
  refine qb (qA (zp2 rfl (zl 0 0 h rfl (qat qc [.tmp 18] _ ([y1.Name] : List ByteArray) h rfl rfl rfl rfl rfl rfl rfl rfl rfl ⟨rfl, trivial⟩ rfl ?_))))
  intro w5 p6 S2 h
  obtain ⟨x2, hx1, hF⟩ := qd hF
  obtain ⟨g1, hx1⟩ := qa4 hx1
  refine qdG qc 2 h rfl (h.sl 0 rfl).1 (h.sl 0 rfl).2 rfl rfl rfl rfl rfl rfl rfl rfl rfl g1 hx1 rfl ?_
  intro w6 p7 k6 S3 h
  refine zp1 rfl (zNER (zp2 rfl (qb ?_)))
  replace h := h.pick [2, 3] rfl
  exact qx m1 [(1, _), (3, _), (4, _), (10, _), (11, _), (12, _)] (Nat.lt_succ_self m1) ⟨rfl, rfl, rfl, rfl, rfl, rfl, trivial⟩ ⟨_, _, _, _, _, _, hF, rfl, h⟩
 refine qE rfl ?_
 obtain rfl := qh hF; replace hF := hK1
 refine zSSR (zp1 rfl (zl 1 2 h rfl (zp2 rfl (qb ?_))))
 replace h := h.nil (α := ByteArray)
 obtain ⟨o2, hF, hK2⟩ := qd hF
 refine qw (qP [(1, _), (3, _), (4, _), (23, _), (24, _), (25, _)] ⟨rfl, rfl, rfl, rfl, rfl, rfl, trivial⟩ ?_)
 refine qF (fun m e w' => ∃ (S4 : Nat → Prop) (p8 : Option Addr) (ln2 : Nat) (k7 : Nat) (x3 : (List ByteArray)) (i2 : Int), qaG d m x3 i2 = some o2 ∧ e = [(1, .pointer (some ⟨bb1, 0, none⟩)), (3, .slice p4 x1.length k4), (4, .slice p8 ln2 k7), (23, .slice p3 d.Ports.length k3), (24, .int .i64 (d.Ports.length : Int)), (25, .int .i64 i2)] ∧ SH w w' [Ch.own S4 (x3 : List ByteArray) [.slice p8 ln2 k7], Ch.own S1 (x1 : List ByteArray) [.slice p4 x1.length k4], Ch.box bb1 [.slice p1 d.Instances.length k1, .slice p2 d.Nets.length k2, .slice p3 d.Ports.length k3] 45]) n ⟨_, _, _, _, _, _, hF, rfl, h⟩ ?_
 rintro m2 e2 w7 ⟨S4, p8, ln2, k7, x3, i2, hF, rfl, h⟩
 obtain rfl := (h.sl 0 rfl).2
 rcases m2 with _ | m2
 ·rw [qaG] at hF
  cases hF
 rw [qaG] at hF
 refine zSR (zp1 rfl (zNS ?_))
 refine qu rfl hF ?_ ?_ <;> intro hF
 ·refine zKSBSR ?_
  obtain ⟨y2, hy2, hF⟩ := qd hF
  have he2 := qf hy2
  obtain ⟨b2, o_2, q2, cs3, hp2, hq2, -, hr2, hc4⟩ := s3.at hy2
  obtain rfl := qbc hr2
  refine zxe hp2 hq2 he2 rfl (zc 0 (hc4.below h.below) rfl (qW qc h rfl rfl rfl ?_))
  intro w8 bb3 h
  refine zs 0 h rfl ?_
  intro w9 h
  replace h : SH _ _ [Ch.box bb3 [.string y2.Name, .int .i64 y2.Dir, .int .i64 y2.Net] 148, Ch.own S4 (x3 : List ByteArray) [.slice p8 x3.length k7], Ch.own S1 (x1 : List ByteArray) [.slice p4 x1.length k4], Ch.box bb1 [.slice p1 d.Instances.length k1, .slice p2 d.Nets.length k2, .slice p3 d.Ports.length k3] 45] := h
  refine qb (qA (zp2 rfl (zl 0 0 h rfl (qat qc [.tmp 31] _ ([y2.Name] : List ByteArray) h rfl rfl rfl rfl rfl rfl rfl rfl rfl ⟨rfl, trivial⟩ rfl ?_))))
  intro w10 p9 S5 h
  obtain ⟨x4, hx2, hF⟩ := qd hF
  obtain ⟨g2, hx2⟩ := qa4 hx2
  refine qdG qc 2 h rfl (h.sl 0 rfl).1 (h.sl 0 rfl).2 rfl rfl rfl rfl rfl rfl rfl rfl rfl g2 hx2 rfl ?_
  intro w11 p10 k8 S6 h
  refine zp1 rfl (zNER (zp2 rfl (qb ?_)))
  replace h := h.pick [2, 3, 4] rfl
  exact qx m2 [(1, _), (3, _), (4, _), (23, _), (24, _), (25, _)] (Nat.lt_succ_self m2) ⟨rfl, rfl, rfl, rfl, rfl, rfl, trivial⟩ ⟨_, _, _, _, _, _, hF, rfl, h⟩
 refine qE rfl ?_
 obtain rfl := qh hF; replace hF := hK2
 refine zSR (zp4 rfl ?_)
 by_cases hc5 : (decide ((x1.length : Int) ≤ 14)) = true
 ·replace hF := bifT hc5 hF
  refine qB hc5 (t := 38) rfl (qa rfl (zp1 rfl (qa rfl (zl 2 1 h rfl (qa rfl (zp1 rfl (qa rfl (zp3 rfl ?_))))))))
  by_cases hc6 : (decide ((d.Nets.length : Int) ≤ 30)) = true
  ·replace hF := bifT hc6 hF
   refine qB hc6 (t := 44) rfl (qa rfl (zp1 rfl (qa rfl (zp1 rfl (qa rfl (zp3 rfl ?_))))))
   by_cases hc7 : (decide ((x3.length : Int) ≤ 8)) = true
   ·replace hF := bifT hc7 hF
    refine qB hc7 (t := 49) rfl (qa rfl (zp1 rfl (qa rfl ?_)))
    obtain ⟨r1, hr3, hF⟩ := qd hF
    refine qp r1 h call154 (qeM (h.own 1 rfl) hr3) rfl rfl rfl rfl ?_
    intro w12 h
    refine zp2 rfl ?_
    by_cases hc8 : r1 = true
    ·replace hF := bifT hc8 hF
     refine qB hc8 (t := 53) rfl (qa rfl (zp1 rfl (qa rfl (zl 2 1 h rfl (qa rfl ?_)))))
     obtain ⟨r2, hr4, hF⟩ := qd hF
     refine qp r2 h call154 (qeM ⟨_, _, rfl, (h.oldS s2)⟩ hr4) rfl rfl rfl rfl ?_
     intro w13 h
     refine zp2 rfl ?_
     by_cases hc9 : r2 = true
     ·replace hF := bifT hc9 hF
      refine qB hc9 (t := 58) rfl (qa rfl (zp1 rfl (qa rfl ?_)))
      obtain ⟨r3, hr5, hF⟩ := qd hF
      refine qp r3 h call154 (qeM (h.own 0 rfl) hr5) rfl rfl rfl rfl ?_
      intro w14 h
      exact zp2 rfl (qb (qz qc h hF ⟨rfl, trivial⟩))
     replace hc9 := zb hc9
     replace hF := bifF hc9 hF
     exact qC hc9 (t := 58) rfl (zn2 rfl (zp2 rfl (qb (qz qc h hF ⟨rfl, trivial⟩))))
    replace hc8 := zb hc8
    replace hF := bifF hc8 hF
    exact qC hc8 (t := 53) rfl (zn3 rfl (zp2 rfl (zn2 rfl (zp2 rfl (qb (qz qc h hF ⟨rfl, trivial⟩))))))
   replace hc7 := zb hc7
   replace hF := bifF hc7 hF
   refine qC hc7 (t := 49) rfl (zn2 rfl (zp2 rfl (zn3 rfl (zp2 rfl (zn2 rfl ?_)))))
   exact zp2 rfl (qb (qz qc h hF ⟨rfl, trivial⟩))
  replace hc6 := zb hc6
  replace hF := bifF hc6 hF
  refine qC hc6 (t := 44) rfl (zn3 rfl (zp2 rfl (zn2 rfl (zp2 rfl (zn2 rfl ?_)))))
  exact zn1 rfl (zp2 rfl (zn2 rfl (zp2 rfl (qb (qz qc h hF ⟨rfl, trivial⟩)))))
 replace hc5 := zb hc5
 replace hF := bifF hc5 hF
 refine qC hc5 (t := 38) rfl (zn4 rfl (zp2 rfl (zn3 rfl (zp2 rfl ?_))))
 refine zn2 rfl (zp2 rfl (zn3 rfl (zp2 rfl (zn2 rfl (zp1 rfl ?_)))))
 exact zp1 rfl (qb (qz qc h hF ⟨rfl, trivial⟩))

def qd0 (_ : Nat) (list : (List qD)) : Option Int :=
 some (list.length : Int)

theorem qif {n : Nat} {w : World} {list : (List qD)} {cs1 : List Value} (ha1 : GoT.R w (old w) list cs1) {r : Int} (hF : qd0 n list = some r) : RetV Tryz.prog 155 [GoT.v (List qD) cs1] w r := by
 obtain ⟨p1, k1, rfl, s1⟩ := ha1
 refine qe Tryz.func155 rfl (m := 5) rfl rfl (fun h => ?_)
 rw [qd0] at hF
 exact zSR (zp1 rfl (zNSR (zp3 rfl (qb (qaH qc h hF ⟨rfl, trivial⟩)))))

def qeV (_ : Nat) (list : (List ByteArray)) : Option Int :=
 some (list.length : Int)

theorem qiR {n : Nat} {w : World} {list : (List ByteArray)} {cs1 : List Value} (ha1 : GoT.R w (old w) list cs1) {r : Int} (hF : qeV n list = some r) : RetV Tryz.prog 157 [GoT.v (List ByteArray) cs1] w r := by
 obtain ⟨p1, k1, rfl, s1⟩ := ha1
 refine qe Tryz.func157 rfl (m := 5) rfl rfl (fun h => ?_)
 rw [qeV] at hF
 exact zSR (zp1 rfl (zNSR (zp3 rfl (qb (qaH qc h hF ⟨rfl, trivial⟩)))))

def qcE (n : Nat) (d : qj) (net : Int) : Option Bool :=
 (qeV n d.Nets).bind fun r1 =>
 (qba n net 0 (W64 (r1 - 1))).bind fun r2 =>
 some r2

theorem qfw {n : Nat} {w : World} {d : qj} {net : Int} {cs1 : List Value} (ha1 : GoT.R w (old w) d cs1) {r : Bool} (hF : qcE n d net = some r) : RetV Tryz.prog 127 [GoT.v qj cs1, .int .i64 net] w r := by
 obtain ⟨p1, k1, p2, k2, p3, k3, rfl, s1, s2, s3⟩ := qao ha1
 refine qe Tryz.func127 rfl (m := 11) rfl rfl (fun h => ?_)
 rw [qcE] at hF
 refine zSR (qN h rfl rfl ?_)
 intro w1 bb1 h
 refine zp1 rfl (zNSR (zp2 rfl (zl 0 1 h rfl ?_)))
 obtain ⟨r1, hr1, hF⟩ := qd hF
 refine qT r1 h call157 (qiR ⟨_, _, rfl, (h.oldS s2)⟩ hr1) rfl rfl rfl rfl ?_
 intro w2 h
 refine zp1 rfl ?_
 obtain ⟨r2, hr2, hF⟩ := qd hF
 refine qp r2 h call100 (qaW hr2) rfl rfl rfl rfl ?_
 intro w3 h
 exact zp1 rfl (qb (qz qc h hF ⟨rfl, trivial⟩))

def qb8 (n : Nat) (net : Int) (v0 : qj) : Option Bool :=
 (qcE n v0 net).bind fun r1 =>
 some (!r1)

theorem qhy {n : Nat} {w : World} {net : Int} {v0 : qj} {p1 : Option Addr} (ha1 : GoT.R w (old w) (some v0) [.pointer p1]) {r : Bool} (hF : qb8 n net v0 = some r) : RetV Tryz.prog 156 [.int .i64 net, .pointer p1] w r := by
 obtain ⟨b1, o_1, cs1, rfl, -, hr1, hc1⟩ := PtR.get ha1 rfl
 obtain ⟨p2, k1, p3, k2, p4, k3, rfl, s1, s2, s3⟩ := qao hr1
 refine qe Tryz.func156 rfl (m := 8) rfl rfl (fun h => ?_)
 rw [qb8] at hF
 refine zSR (zp1 rfl (zNSR (zc 0 (hc1.below h.below) rfl (zp1 rfl ?_))))
 obtain ⟨r1, hr2, hF⟩ := qd hF
 refine qp r1 h call127 (qfw (qaS v0 (h.oldS s1) (h.oldS s2) (h.oldS s3)) hr2) rfl rfl rfl rfl ?_
 intro w1 h
 exact zp2 rfl (qb (qz qc h hF ⟨rfl, trivial⟩))

def qI (s : (List Int)) (f_0 : qj) : Nat → Int → Option (Flow Int Int)
 | 0, _ => none
 | n + 1, i1 =>
  bif decide (i1 < (s.length : Int)) then
   (idx s i1).bind fun y1 =>
   (qb8 n y1 f_0).bind fun r1 =>
   bif r1 then
    some (.ret i1)
   else
    qI s f_0 n (W64 (i1 + 1))
  else
   some (.nxt i1)

def qaz (n : Nat) (s : (List Int)) (f_0 : qj) : Option Int :=
 (qI s f_0 n 0).bind fun o => match o with
 | .ret r => some r
 | .nxt _ =>
  some (-1)

theorem qdS {n : Nat} {w : World} {s : (List Int)} {f_0 : qj} {cs1 : List Value} (ha1 : GoT.R w (old w) s cs1) {p2 : Option Addr} (ha2 : GoT.R w (old w) (some f_0) [.pointer p2]) {r : Int} (hF : qaz n s f_0 = some r) : RetV Tryz.prog 159 [GoT.v (List Int) cs1, .func (.func 156) #[] #[.pointer p2]] w r := by
 obtain ⟨p1, k1, rfl, s1⟩ := ha1
 obtain ⟨b1, o_1, cs2, rfl, -, hr1, hc1⟩ := PtR.get ha2 rfl
 obtain ⟨p3, k2, p4, k3, p5, k4, rfl, s2, s3, s4⟩ := qao hr1
 refine qe Tryz.func159 rfl (m := 19) rfl rfl (fun h => ?_)
 rw [qaz] at hF
 refine zSR (zp1 rfl (zNSSR (zp3 rfl (qb ?_))))
 obtain ⟨o1, hF, hK1⟩ := qd hF
 refine qw (qP [(0, _), (1, _), (7, _), (8, _)] ⟨rfl, rfl, rfl, rfl, trivial⟩ ?_)
 refine qF (fun m e w' => ∃ (i1 : Int), qI s f_0 m i1 = some o1 ∧ e = [(0, .slice p1 s.length k1), (1, .func (.func 156) #[] #[.pointer (some ⟨b1, o_1, none⟩)]), (7, .int .i64 (s.length : Int)), (8, .int .i64 i1)] ∧ SH w w' []) n ⟨_, hF, rfl, h⟩ ?_
 rintro m1 e1 w1 ⟨i1, hF, rfl, h⟩
 rcases m1 with _ | m1
 ·rw [qI] at hF
  cases hF
 rw [qI] at hF
 refine zSR (zp1 rfl (zNS ?_))
 refine qu rfl hF ?_ ?_ <;> intro hF
 ·refine zKSBSR (zp2 rfl (zNSR (zp2 rfl ?_)))
  refine zp1 rfl ?_
  obtain ⟨y1, hy1, hF⟩ := qd hF
  have he1 := qf hy1
  obtain ⟨b2, o_2, q1, cs3, hp1, hq1, -, hr2, hc3⟩ := s1.at hy1
  obtain rfl := hr2
  refine zxe hp1 hq1 he1 rfl (zc 0 (hc3.below h.below) rfl ?_)
  obtain ⟨r1, hr3, hF⟩ := qd hF
  refine qp r1 h call156 (qhy (h.old ha2) hr3) rfl rfl rfl rfl ?_
  intro w2 h
  refine qb ?_
  refine qu rfl hF ?_ ?_ <;> intro hF
  ·refine zSR (zp2 rfl (qb ?_))
   obtain rfl := qh hF; replace hF := hK1
   exact qaH qc h hF ⟨rfl, trivial⟩
  exact zKER (zp2 rfl (qb (qx m1 [(0, _), (1, _), (7, _), (8, _)] (Nat.lt_succ_self m1) ⟨rfl, rfl, rfl, rfl, trivial⟩ ⟨_, hF, rfl, h⟩)))
 refine qE rfl ?_
 obtain rfl := qh hF; replace hF := hK1
 exact zSR (zp1 rfl (qb (qaH qc h hF ⟨rfl, trivial⟩)))

def qar (n : Nat) (s : (List Int)) (f_0 : qj) : Option Bool :=
 (qaz n s f_0).bind fun r1 =>
 some (decide (r1 ≥ 0))

theorem qdE {n : Nat} {w : World} {s : (List Int)} {f_0 : qj} {cs1 : List Value} (ha1 : GoT.R w (old w) s cs1) {p2 : Option Addr} (ha2 : GoT.R w (old w) (some f_0) [.pointer p2]) {r : Bool} (hF : qar n s f_0 = some r) : RetV Tryz.prog 136 [GoT.v (List Int) cs1, .func (.func 156) #[] #[.pointer p2]] w r := by
 obtain ⟨p1, k1, rfl, s1⟩ := ha1
 obtain ⟨b1, o_1, cs2, rfl, -, hr1, hc1⟩ := PtR.get ha2 rfl
 obtain ⟨p3, k2, p4, k3, p5, k4, rfl, s2, s3, s4⟩ := qao hr1
 refine qe Tryz.func136 rfl (m := 9) rfl rfl (fun h => ?_)
 rw [qar] at hF
 refine zSR (zp1 rfl (zNSR (zp2 rfl ?_)))
 obtain ⟨r1, hr2, hF⟩ := qd hF
 refine qT r1 h call159 (qdS ⟨_, _, rfl, (h.oldS s1)⟩ (h.old ha2) hr2) rfl rfl rfl rfl ?_
 intro w1 h
 exact zp2 rfl (qb (qz qc h hF ⟨rfl, trivial⟩))

def qcL (n : Nat) (d : qj) (l : qv) (x : qn) : Option Bool :=
 (qd0 n l.Cells).bind fun r1 =>
 (qba n x.Cell 0 (W64 (r1 - 1))).bind fun r2 =>
 bif r2 then
  (idx l.Cells x.Cell).bind fun y1 =>
  bif ((x.Nets.length : Int) == (y1.Pins.length : Int)) then
   (qar n x.Nets d).bind fun r3 =>
   some (!r3)
  else
   some false
 else
  some false

theorem qhY {n : Nat} {w : World} {d : qj} {l : qv} {x : qn} {cs1 : List Value} (ha1 : GoT.R w (old w) d cs1) {cs2 : List Value} (ha2 : GoT.R w (old w) l cs2) {cs3 : List Value} (ha3 : GoT.R w (old w) x cs3) {r : Bool} (hF : qcL n d l x = some r) : RetV Tryz.prog 126 [GoT.v qj cs1, GoT.v qv cs2, GoT.v qn cs3] w r := by
 obtain ⟨p1, k1, p2, k2, p3, k3, rfl, s1, s2, s3⟩ := qao ha1
 obtain ⟨p4, k4, rfl, s4⟩ := qbh ha2
 obtain ⟨p5, k5, rfl, s5⟩ := qV ha3
 refine qe Tryz.func126 rfl (m := 35) rfl rfl (fun h => ?_)
 rw [qcL] at hF
 refine zSR (qN h rfl rfl ?_)
 intro w1 bb1 h
 refine qN h rfl rfl ?_
 intro w2 bb2 h
 refine qN h rfl rfl ?_
 intro w3 bb3 h
 refine zp1 rfl (zNS ?_)
 refine qcA rfl (by kernel_rfl) ?_
 refine zd1 rfl ?_
 refine zdl 0 1 h rfl ?_
 refine zd1 rfl ?_
 refine zdl 1 0 h rfl ?_
 obtain ⟨r1, hr1, hF⟩ := qd hF
 refine qcD r1 (vsI _) call155 (fun _ hb => qif ⟨_, _, rfl, ((h.ext hb).oldS s4)⟩ hr1) rfl rfl rfl rfl ?_
 refine zd1 rfl ?_
 obtain ⟨r2, hr2, hF⟩ := qd hF
 refine qcD r2 (vsB _) call100 (fun _ hb => qaW  hr2) rfl rfl rfl rfl ?_
 refine zd1 rfl ?_
 by_cases hc1 : r2 = true
 ·replace hF := bifT hc1 hF
  refine qcC hc1 (t := 14) rfl (qg rfl (zd1 rfl (qg rfl ?_)))
  refine zdl 0 2 h rfl ?_
  refine qg rfl (zd1 rfl (qg rfl (zd1 rfl (qg rfl ?_))))
  refine zdl 1 0 h rfl ?_
  refine qg rfl (zd1 rfl (qg rfl ?_))
  refine zdl 0 1 h rfl ?_
  refine qg rfl ?_
  obtain ⟨y1, hy1, hF⟩ := qd hF
  have he1 := qf hy1
  obtain ⟨b1, o_1, q1, cs4, hp1, hq1, -, hr3, hc2⟩ := s4.at hy1
  obtain ⟨p6, k6, p7, k7, p8, k8, rfl, s6, s7, s8⟩ := qU hr3
  refine zdxe hp1 hq1 he1 rfl ?_
  refine qg rfl (zd1 rfl (qg rfl ?_))
  refine zdc 2 (hc2.below h.below) rfl ?_
  refine qg rfl (zd1 rfl (qg rfl (zd3 rfl ?_)))
  by_cases hc3 : ((x.Nets.length : Int) == (y1.Pins.length : Int)) = true
  ·replace hF := bifT hc3 hF
   refine qcC hc3 (t := 28) rfl (qg rfl (zd1 rfl (qg rfl ?_)))
   refine zdl 0 2 h rfl ?_
   refine qg rfl (zd1 rfl (qg rfl ?_))
   obtain ⟨r3, hr4, hF⟩ := qd hF
   refine qcD r3 (vsB _) call136 (fun _ hb => qdE ⟨_, _, rfl, ((h.ext hb).oldS s5)⟩ (qhU (x := d) 2 (h.ext hb) rfl ((h.ext hb).old ha1)) hr4) rfl rfl rfl rfl ?_
   refine qg rfl (zd3 rfl ?_)
   refine qbb (fun w4 hb => ?_)
   replace h := h.ext hb
   clear hb
   exact qz qc h hF ⟨rfl, trivial⟩
  replace hc3 := zb hc3
  replace hF := bifF hc3 hF
  refine qcy hc3 (t := 28) rfl (qk rfl rfl rfl (qk rfl rfl rfl (qk rfl rfl rfl (qk rfl rfl rfl (qk rfl rfl rfl (zd2 rfl ?_))))))
  refine qbb (fun w5 hb => ?_)
  replace h := h.ext hb
  clear hb
  exact qz qc h hF ⟨rfl, trivial⟩
 replace hc1 := zb hc1
 replace hF := bifF hc1 hF
 refine qcy hc1 (t := 14) rfl (qk rfl rfl rfl (qk rfl rfl rfl (qk rfl rfl rfl (qk rfl rfl rfl (qk rfl rfl rfl (qk rfl rfl rfl (qk rfl rfl rfl (qk rfl rfl rfl (qk rfl rfl rfl (qk rfl rfl rfl (qk rfl rfl rfl ?_)))))))))))
 refine qk rfl rfl rfl (zd2 rfl (qk rfl rfl rfl (qk rfl rfl rfl (qk rfl rfl rfl (qk rfl rfl rfl (qk rfl rfl rfl (zd2 rfl ?_)))))))
 refine qbb (fun w6 hb => ?_)
 replace h := h.ext hb
 clear hb
 exact qz qc h hF ⟨rfl, trivial⟩

def qf4 (_ : Nat) (a_n : Int) : Option Bool :=
 some (a_n != 1)

theorem qjP {n : Nat} {w : World} {a_n : Int}  {r : Bool} (hF : qf4 n a_n = some r) : RetV Tryz.prog 129 [.int .i64 a_n] w r := by
 refine qe Tryz.func129 rfl (m := 5) rfl rfl (fun h => ?_)
 rw [qf4] at hF
 exact zSR (zp1 rfl (zNSR (zp3 rfl (qb (qz qc h hF ⟨rfl, trivial⟩)))))

def qR (s : (List Int)) : Nat → Int → Option (Flow Int Int)
 | 0, _ => none
 | n + 1, i1 =>
  bif decide (i1 < (s.length : Int)) then
   (idx s i1).bind fun y1 =>
   (qf4 n y1).bind fun r1 =>
   bif r1 then
    some (.ret i1)
   else
    qR s n (W64 (i1 + 1))
  else
   some (.nxt i1)

def qbe (n : Nat) (s : (List Int)) : Option Int :=
 (qR s n 0).bind fun o => match o with
 | .ret r => some r
 | .nxt _ =>
  some (-1)

theorem qfi {n : Nat} {w : World} {s : (List Int)} {cs1 : List Value} (ha1 : GoT.R w (old w) s cs1) {r : Int} (hF : qbe n s = some r) : RetV Tryz.prog 158 [GoT.v (List Int) cs1, .func (.func 129) #[] #[]] w r := by
 obtain ⟨p1, k1, rfl, s1⟩ := ha1
 refine qe Tryz.func158 rfl (m := 19) rfl rfl (fun h => ?_)
 rw [qbe] at hF
 refine zSR (zp1 rfl (zNSSR (zp3 rfl (qb ?_))))
 obtain ⟨o1, hF, hK1⟩ := qd hF
 refine qw (qP [(0, _), (1, _), (7, _), (8, _)] ⟨rfl, rfl, rfl, rfl, trivial⟩ ?_)
 refine qF (fun m e w' => ∃ (i1 : Int), qR s m i1 = some o1 ∧ e = [(0, .slice p1 s.length k1), (1, .func (.func 129) #[] #[]), (7, .int .i64 (s.length : Int)), (8, .int .i64 i1)] ∧ SH w w' []) n ⟨_, hF, rfl, h⟩ ?_
 rintro m1 e1 w1 ⟨i1, hF, rfl, h⟩
 rcases m1 with _ | m1
 ·rw [qR] at hF
  cases hF
 rw [qR] at hF
 refine zSR (zp1 rfl (zNS ?_))
 refine qu rfl hF ?_ ?_ <;> intro hF
 ·refine zKSBSR (zp2 rfl (zNSR (zp2 rfl ?_)))
  refine zp1 rfl ?_
  obtain ⟨y1, hy1, hF⟩ := qd hF
  have he1 := qf hy1
  obtain ⟨b1, o_1, q1, cs2, hp1, hq1, -, hr1, hc2⟩ := s1.at hy1
  obtain rfl := hr1
  refine zxe hp1 hq1 he1 rfl (zc 0 (hc2.below h.below) rfl ?_)
  obtain ⟨r1, hr2, hF⟩ := qd hF
  refine qp r1 h call129 (qjP hr2) rfl rfl rfl rfl ?_
  intro w2 h
  refine qb ?_
  refine qu rfl hF ?_ ?_ <;> intro hF
  ·refine zSR (zp2 rfl (qb ?_))
   obtain rfl := qh hF; replace hF := hK1
   exact qaH qc h hF ⟨rfl, trivial⟩
  exact zKER (zp2 rfl (qb (qx m1 [(0, _), (1, _), (7, _), (8, _)] (Nat.lt_succ_self m1) ⟨rfl, rfl, rfl, rfl, trivial⟩ ⟨_, hF, rfl, h⟩)))
 refine qE rfl ?_
 obtain rfl := qh hF; replace hF := hK1
 exact zSR (zp1 rfl (qb (qaH qc h hF ⟨rfl, trivial⟩)))

def qa5 (n : Nat) (s : (List Int)) : Option Bool :=
 (qbe n s).bind fun r1 =>
 some (decide (r1 ≥ 0))

theorem qeR {n : Nat} {w : World} {s : (List Int)} {cs1 : List Value} (ha1 : GoT.R w (old w) s cs1) {r : Bool} (hF : qa5 n s = some r) : RetV Tryz.prog 128 [GoT.v (List Int) cs1, .func (.func 129) #[] #[]] w r := by
 obtain ⟨p1, k1, rfl, s1⟩ := ha1
 refine qe Tryz.func128 rfl (m := 9) rfl rfl (fun h => ?_)
 rw [qa5] at hF
 refine zSR (zp1 rfl (zNSR (zp2 rfl ?_)))
 obtain ⟨r1, hr1, hF⟩ := qd hF
 refine qT r1 h call158 (qfi ⟨_, _, rfl, (h.oldS s1)⟩ hr1) rfl rfl rfl rfl ?_
 intro w1 h
 exact zp2 rfl (qb (qz qc h hF ⟨rfl, trivial⟩))

def qbq (a_1 : qj) : Nat → (List Int) → Int → Option (Flow Bool ((List Int) × Int))
 | 0, _, _ => none
 | n + 1, x3, i2 =>
  bif decide (i2 < (a_1.Ports.length : Int)) then
   (idx a_1.Ports i2).bind fun y5 =>
   (
    bif (y5.Dir != 1) then
     bif (y5.Dir != 2) then
      some true
     else
      (qcE n a_1 y5.Net).bind fun r2 =>
      some (!r2)
    else
     (qcE n a_1 y5.Net).bind fun r3 =>
     some (!r3)).bind fun b7 =>
   bif b7 then
    some (.ret false)
   else
    bif (y5.Dir == 1) then
     (idx x3 y5.Net).bind fun y6 =>
     (idx x3 y5.Net).bind fun _ =>
     qbq a_1 n (setS x3 y5.Net (W64 (y6 + 1))) (W64 (i2 + 1))
    else
     qbq a_1 n x3 (W64 (i2 + 1))
  else
   some (.nxt (x3, i2))

def qb0 (a_0 : qv) (a_1 : qj) : Nat → (List Int) → Int → Option (Flow Bool ((List Int) × Int))
 | 0, _, _ => none
 | n + 1, x2, i1 =>
  bif decide (i1 < (a_1.Instances.length : Int)) then
   (idx a_1.Instances i1).bind fun y1 =>
   (qcL n a_1 a_0 y1).bind fun r1 =>
   bif (!r1) then
    some (.ret false)
   else
    (idx y1.Nets (W64 ((y1.Nets.length : Int) - 1))).bind fun y2 =>
    (idx x2 y2).bind fun y3 =>
    (idx x2 y2).bind fun _ =>
    qb0 a_0 a_1 n (setS x2 y2 (W64 (y3 + 1))) (W64 (i1 + 1))
  else
   some (.nxt (x2, i1))

def qfZ (n : Nat) (a_0 : qv) (a_1 : qj) : Option Bool :=
 (
  (qfo n a_0).bind fun r5 =>
  bif (!r5) then
   some true
  else
   (qdg n a_1).bind fun r6 =>
   some (!r6)).bind fun b1 =>
 bif b1 then
  some false
 else
  (mkS (a_1.Nets.length : Int) (0 : Int)).bind fun x1 =>
  (qb0 a_0 a_1 n x1 0).bind fun o => match o with
  | .ret r => some r
  | .nxt (x2, _) =>
   (qbq a_1 n x2 0).bind fun o => match o with
   | .ret r => some r
   | .nxt (x3, _) =>
    (qa5 n x3).bind fun r4 =>
    some (!r4)

theorem qkx {n : Nat} {w : World} {a_0 : qv} {a_1 : qj} {cs1 : List Value} (ha1 : GoT.R w (old w) a_0 cs1) {cs2 : List Value} (ha2 : GoT.R w (old w) a_1 cs2) {r : Bool} (hF : qfZ n a_0 a_1 = some r) : RetV Tryz.prog 75 [GoT.v qv cs1, GoT.v qj cs2] w r := by
 obtain ⟨p1, k1, rfl, s1⟩ := qbh ha1
 obtain ⟨p2, k2, p3, k3, p4, k4, rfl, s2, s3, s4⟩ := qao ha2
 refine qe Tryz.func75 rfl (m := 84) rfl rfl (fun h => ?_)
 rw [qfZ] at hF
 refine zSR (qN h rfl rfl ?_)
 intro w1 bb1 h
 refine qN h rfl rfl ?_
 intro w2 bb2 h
 refine zp1 rfl (zNSS ?_)
 obtain ⟨KF2, hKF2, o4, hF, hK4⟩ := bindE hF
 refine qek (fun e w' => ∃ (b1 : Bool), KF2 b1 = some r ∧ e = [(2, .pointer (some ⟨bb1, 0, none⟩)), (3, .pointer (some ⟨bb2, 0, none⟩)), (17, .bool b1)] ∧ SH w w' [Ch.box bb2 [.slice p2 a_1.Instances.length k2, .slice p3 a_1.Nets.length k3, .slice p4 a_1.Ports.length k4] 45, Ch.box bb1 [.slice p1 a_0.Cells.length k1] 41]) ?_ ?_
 ·refine qA (zl 1 0 h rfl ?_)
  obtain ⟨r5, hr12, hF⟩ := qd hF
  refine qp r5 h call124 (qkh (h.old ha1) hr12) rfl rfl rfl rfl ?_
  intro w17 h
  refine zp2 rfl ?_
  by_cases hc16 : (!r5) = true
  ·replace hF := bifT hc16 hF
   refine qB hc16 (t := 13) rfl (zn3 rfl (zp1 rfl (qb ?_)))
   obtain rfl := qh hF
   exact qy [(2, _), (3, _), (17, _)] ⟨rfl, rfl, rfl, trivial⟩ ⟨_, hK4, rfl, h⟩
  replace hc16 := zb hc16
  replace hF := bifF hc16 hF
  refine qC hc16 (t := 13) rfl (qa rfl (zl 0 0 h rfl (qa rfl ?_)))
  obtain ⟨r6, hr13, hF⟩ := qd hF
  refine qp r6 h call125 (qii (h.old ha2) hr13) rfl rfl rfl rfl ?_
  intro w18 h
  refine qa rfl (zp2 rfl (qb ?_))
  obtain rfl := qh hF
  exact qy [(2, _), (3, _), (17, _)] ⟨rfl, rfl, rfl, trivial⟩ ⟨_, hK4, rfl, h⟩
 rintro e4 w19 ⟨b1, hF, rfl, h⟩
 subst hKF2
 refine qu rfl hF ?_ ?_ <;> intro hF
 ·exact zSR (zp1 rfl (qb (qz qc h hF ⟨rfl, trivial⟩)))
 refine zKSR (zp1 rfl (zl 0 1 h rfl (zp1 rfl ?_)))
 obtain ⟨x1, hx1, hF⟩ := qd hF
 obtain ⟨g1, g2, hx1⟩ := qcn hx1
 refine qdo qc Int h rfl rfl rfl rfl rfl rfl rfl rfl rfl g1 g2 hx1 rfl ?_
 intro w3 S1 p5 h
 refine zp1 rfl (zNSSR (zp1 rfl (zl 1 0 h rfl (zp2 rfl (qb ?_)))))
 obtain ⟨o1, hF, hK1⟩ := qd hF
 refine qw (qP [(2, _), (3, _), (5, _), (23, _), (24, _), (25, _)] ⟨rfl, rfl, rfl, rfl, rfl, rfl, trivial⟩ ?_)
 refine qF (fun m e w' => ∃ (x2 : (List Int)) (i1 : Int), qb0 a_0 a_1 m x2 i1 = some o1 ∧ e = [(2, .pointer (some ⟨bb1, 0, none⟩)), (3, .pointer (some ⟨bb2, 0, none⟩)), (5, .slice p5 x1.length x1.length), (23, .slice p2 a_1.Instances.length k2), (24, .int .i64 (a_1.Instances.length : Int)), (25, .int .i64 i1)] ∧ SH w w' [Ch.own S1 (x2 : List Int) [.slice p5 x1.length x1.length], Ch.box bb2 [.slice p2 a_1.Instances.length k2, .slice p3 a_1.Nets.length k3, .slice p4 a_1.Ports.length k4] 45, Ch.box bb1 [.slice p1 a_0.Cells.length k1] 41]) n ⟨_, _, hF, rfl, h⟩ ?_
 rintro m1 e1 w4 ⟨x2, i1, hF, rfl, h⟩
 rcases m1 with _ | m1
 ·rw [qb0] at hF
  cases hF
 rw [qb0] at hF
 refine zSR (zp1 rfl (zNS ?_))
 refine qu rfl hF ?_ ?_ <;> intro hF
 ·refine zKSBSR ?_
  obtain ⟨y1, hy1, hF⟩ := qd hF
  have he1 := qf hy1
  obtain ⟨b2, o_1, q1, cs3, hp1, hq1, -, hr1, hc3⟩ := s2.at hy1
  obtain ⟨p6, k5, rfl, s5⟩ := qV hr1
  refine zxe hp1 hq1 he1 rfl (zc 0 (hc3.below h.below) rfl (qW qc h rfl rfl rfl ?_))
  intro w5 bb3 h
  refine zs 0 h rfl ?_
  intro w6 h
  refine zNSSR (zl 2 0 h rfl (zl 3 0 h rfl (zl 0 0 h rfl ?_)))
  obtain ⟨r1, hr2, hF⟩ := qd hF
  refine qp r1 h call126 (qhY (h.old ha2) (h.old ha1) (qff y1 (h.oldS s5)) hr2) rfl rfl rfl rfl ?_
  intro w7 h
  refine zp1 rfl (qb ?_)
  refine qu rfl hF ?_ ?_ <;> intro hF
  ·refine zSR (zp1 rfl (qb ?_))
   obtain rfl := qh hF; replace hF := hK1
   exact qz qc h hF ⟨rfl, trivial⟩
  refine qeq (qA (zp2 rfl (zl 0 2 h rfl (zp1 rfl (zl 0 2 h rfl (zp2 rfl ?_))))))
  obtain ⟨y2, hy2, hF⟩ := qd hF
  have he2 := qf hy2
  obtain ⟨b3, o_2, q2, cs4, hp2, hq2, -, hr3, hc5⟩ := s5.at hy2
  obtain rfl := hr3
  refine zxe hp2 hq2 he2 rfl (zc 0 (hc5.below h.below) rfl ?_)
  obtain ⟨y3, hy3, hF⟩ := qd hF
  have he3 := qf hy3
  obtain ⟨b4, o_3, q3, cs5, hp3, hq3, -, hr4, hc6⟩ := (h.sl 1 rfl).1.at hy3
  obtain rfl := hr4
  refine zx hp3 hq3 ⟨he3.1, qY he3.2.1 (h.sl 1 rfl).2⟩ rfl (zc 0 hc6 rfl (zp1 rfl ?_))
  obtain ⟨y4, hy4, hF⟩ := qd hF
  have he4 := qf hy4
  obtain ⟨b5, o_4, q4, cs6, hp4, hq4, -, hr5, hc7⟩ := (h.sl 1 rfl).1.at hy4
  obtain rfl := hr5
  refine zx hp4 hq4 ⟨he4.1, qY he4.2.1 (h.sl 1 rfl).2⟩ rfl (qcH qc 1 0 (W64 (y3 + 1)) h rfl hy4 hp4 hq4 rfl hc7 rfl rfl rfl rfl rfl rfl rfl ?_)
  intro w8 h
  refine zNER (zp2 rfl (qb ?_))
  replace h := h.pick [1, 2, 3] rfl
  exact qx m1 [(2, _), (3, _), (5, _), (23, _), (24, _), (25, _)] (Nat.lt_succ_self m1) ⟨rfl, rfl, rfl, rfl, rfl, rfl, trivial⟩ ⟨_, _, hF, rfl, h⟩
 refine qE rfl ?_
 obtain rfl := qh hF; replace hF := hK1
 refine zSSR (zp1 rfl (zl 1 2 h rfl (zp2 rfl (qb ?_))))
 obtain ⟨o2, hF, hK2⟩ := qd hF
 refine qw ?_
 replace h := h.pick [0, 1] rfl
 refine qP [(3, _), (5, _), (49, _), (50, _), (51, _)] ⟨rfl, rfl, rfl, rfl, rfl, trivial⟩ ?_
 refine qF (fun m e w' => ∃ (x3 : (List Int)) (i2 : Int), qbq a_1 m x3 i2 = some o2 ∧ e = [(3, .pointer (some ⟨bb2, 0, none⟩)), (5, .slice p5 x1.length x1.length), (49, .slice p4 a_1.Ports.length k4), (50, .int .i64 (a_1.Ports.length : Int)), (51, .int .i64 i2)] ∧ SH w w' [Ch.own S1 (x3 : List Int) [.slice p5 x1.length x1.length], Ch.box bb2 [.slice p2 a_1.Instances.length k2, .slice p3 a_1.Nets.length k3, .slice p4 a_1.Ports.length k4] 45]) n ⟨_, _, hF, rfl, h⟩ ?_
 rintro m2 e2 w9 ⟨x3, i2, hF, rfl, h⟩
 rcases m2 with _ | m2
 ·rw [qbq] at hF
  cases hF
 rw [qbq] at hF
 refine zSR (zp1 rfl (zNS ?_))
 refine qu rfl hF ?_ ?_ <;> intro hF
 ·refine zKSBSR ?_
  obtain ⟨y5, hy5, hF⟩ := qd hF
  have he5 := qf hy5
  obtain ⟨b6, o_5, q5, cs7, hp5, hq5, -, hr6, hc9⟩ := s4.at hy5
  obtain rfl := qbc hr6
  refine zxe hp5 hq5 he5 rfl (zc 0 (hc9.below h.below) rfl (qW qc h rfl rfl rfl ?_))
  intro w10 bb4 h
  refine zs 0 h rfl ?_
  intro w11 h
  replace h : SH _ _ [Ch.box bb4 [.string y5.Name, .int .i64 y5.Dir, .int .i64 y5.Net] 148, Ch.own S1 (x3 : List Int) [.slice p5 x1.length x1.length], Ch.box bb2 [.slice p2 a_1.Instances.length k2, .slice p3 a_1.Nets.length k3, .slice p4 a_1.Ports.length k4] 45] := h
  refine zNSS ?_
  obtain ⟨KF1, hKF1, o3, hF, hK3⟩ := bindE hF
  refine qek (fun e w' => ∃ (b7 : Bool), KF1 b7 = some o2 ∧ e = [(3, .pointer (some ⟨bb2, 0, none⟩)), (5, .slice p5 x1.length x1.length), (9, .pointer (some ⟨bb4, 0, none⟩)), (49, .slice p4 a_1.Ports.length k4), (50, .int .i64 (a_1.Ports.length : Int)), (51, .int .i64 i2), (69, .bool b7)] ∧ SH w w' [Ch.box bb4 [.string y5.Name, .int .i64 y5.Dir, .int .i64 y5.Net] 148, Ch.own S1 (x3 : List Int) [.slice p5 x1.length x1.length], Ch.box bb2 [.slice p2 a_1.Instances.length k2, .slice p3 a_1.Nets.length k3, .slice p4 a_1.Ports.length k4] 45]) ?_ ?_
  ·refine qA (zp1 rfl (zl 0 1 h rfl (zp2 rfl ?_)))
   by_cases hc14 : (y5.Dir != 1) = true
   ·replace hF := bifT hc14 hF
    refine qB hc14 (t := 58) rfl (qa rfl (zp1 rfl (qa rfl (zl 0 1 h rfl (qa rfl (zp3 rfl ?_))))))
    by_cases hc15 : (y5.Dir != 2) = true
    ·replace hF := bifT hc15 hF
     refine qB hc15 (t := 63) rfl (zn5 rfl (zp1 rfl (qb ?_)))
     obtain rfl := qh hF
     exact qy [(3, _), (5, _), (9, _), (49, _), (50, _), (51, _), (69, _)] ⟨rfl, rfl, rfl, rfl, rfl, rfl, rfl, trivial⟩ ⟨_, hK3, rfl, h⟩
    replace hc15 := zb hc15
    replace hF := bifF hc15 hF
    refine qC hc15 (t := 63) rfl (qa rfl (zl 2 0 h rfl (qa rfl (zp1 rfl (qa rfl (zl 0 2 h rfl (qa rfl ?_)))))))
    obtain ⟨r2, hr9, hF⟩ := qd hF
    refine qp r2 h call127 (qfw (h.old ha2) hr9) rfl rfl rfl rfl ?_
    intro w13 h
    refine qa rfl (zp2 rfl (qb ?_))
    obtain rfl := qh hF
    exact qy [(3, _), (5, _), (9, _), (49, _), (50, _), (51, _), (69, _)] ⟨rfl, rfl, rfl, rfl, rfl, rfl, rfl, trivial⟩ ⟨_, hK3, rfl, h⟩
   replace hc14 := zb hc14
   replace hF := bifF hc14 hF
   refine qC hc14 (t := 58) rfl (zn3 rfl (zp2 rfl (qa rfl (zl 2 0 h rfl (qa rfl (zp1 rfl (qa rfl (zl 0 2 h rfl ?_))))))))
   refine qa rfl ?_
   obtain ⟨r3, hr10, hF⟩ := qd hF
   refine qp r3 h call127 (qfw (h.old ha2) hr10) rfl rfl rfl rfl ?_
   intro w14 h
   refine qa rfl (zp2 rfl (qb ?_))
   obtain rfl := qh hF
   exact qy [(3, _), (5, _), (9, _), (49, _), (50, _), (51, _), (69, _)] ⟨rfl, rfl, rfl, rfl, rfl, rfl, rfl, trivial⟩ ⟨_, hK3, rfl, h⟩
  rintro e3 w15 ⟨b7, hF, rfl, h⟩
  subst hKF1
  refine qu rfl hF ?_ ?_ <;> intro hF
  ·refine zSR (zp1 rfl (qb ?_))
   obtain rfl := qh hF; replace hF := hK2
   exact qz qc h hF ⟨rfl, trivial⟩
  refine zKSR (zp1 rfl (zl 0 1 h rfl (zp1 rfl (qb ?_))))
  refine qu rfl hF ?_ ?_ <;> intro hF
  ·refine qA (zp2 rfl (zl 0 2 h rfl ?_))
   obtain ⟨y6, hy6, hF⟩ := qd hF
   have he6 := qf hy6
   obtain ⟨b8, o_6, q6, cs8, hp6, hq6, -, hr7, hc12⟩ := (h.sl 1 rfl).1.at hy6
   obtain rfl := hr7
   refine zx hp6 hq6 ⟨he6.1, qY he6.2.1 (h.sl 1 rfl).2⟩ rfl (zc 0 hc12 rfl (zp1 rfl ?_))
   obtain ⟨y7, hy7, hF⟩ := qd hF
   have he7 := qf hy7
   obtain ⟨b9, o_7, q7, cs9, hp7, hq7, -, hr8, hc13⟩ := (h.sl 1 rfl).1.at hy7
   obtain rfl := hr8
   refine zx hp7 hq7 ⟨he7.1, qY he7.2.1 (h.sl 1 rfl).2⟩ rfl (qcH qc 1 0 (W64 (y6 + 1)) h rfl hy7 hp7 hq7 rfl hc13 rfl rfl rfl rfl rfl rfl rfl ?_)
   intro w12 h
   refine zNER (zp2 rfl (qb ?_))
   replace h := h.pick [1, 2] rfl
   exact qx m2 [(3, _), (5, _), (49, _), (50, _), (51, _)] (Nat.lt_succ_self m2) ⟨rfl, rfl, rfl, rfl, rfl, trivial⟩ ⟨_, _, hF, rfl, h⟩
  refine zKER (zp2 rfl (qb ?_))
  replace h := h.pick [1, 2] rfl
  exact qx m2 [(3, _), (5, _), (49, _), (50, _), (51, _)] (Nat.lt_succ_self m2) ⟨rfl, rfl, rfl, rfl, rfl, trivial⟩ ⟨_, _, hF, rfl, h⟩
 refine qE rfl ?_
 obtain rfl := qh hF; replace hF := hK2
 refine zSR (zp1 rfl ?_)
 obtain ⟨r4, hr11, hF⟩ := qd hF
 refine qp r4 h call128 (qeR (h.own 0 rfl) hr11) rfl rfl rfl rfl ?_
 intro w16 h
 exact zp2 rfl (qb (qz qc h hF ⟨rfl, trivial⟩))

def qaZ (i1 : Int) (y1 : qn) : Nat → (List Tplace) → Int → Option ((List Tplace) × Int)
 | 0, _, _ => none
 | n + 1, x2, i2 =>
  bif decide (i2 < (y1.Nets.length : Int)) then
   (idx y1.Nets i2).bind fun y2 =>
   (appS x2 ([(⟨i1, i2, y2, (i2 == (W64 ((y1.Nets.length : Int) - 1)))⟩ : Tplace)] : List Tplace)).bind fun x3 =>
   qaZ i1 y1 n x3 (W64 (i2 + 1))
  else
   some (x2, i2)

def qaX (d : qj) : Nat → (List Tplace) → Int → Option ((List Tplace) × Int)
 | 0, _, _ => none
 | n + 1, x4, i3 =>
  bif decide (i3 < (d.Ports.length : Int)) then
   (idx d.Ports i3).bind fun y3 =>
   (appS x4 ([(⟨(-1), i3, y3.Net, (y3.Dir == 1)⟩ : Tplace)] : List Tplace)).bind fun x5 =>
   qaX d n x5 (W64 (i3 + 1))
  else
   some (x4, i3)

def qaY (d : qj) : Nat → (List Tplace) → Int → Option ((List Tplace) × Int)
 | 0, _, _ => none
 | n + 1, x1, i1 =>
  bif decide (i1 < (d.Instances.length : Int)) then
   (idx d.Instances i1).bind fun y1 =>
   (qaZ i1 y1 n x1 0).bind fun o => match o with
   | (x2, _) =>
    qaY d n x2 (W64 (i1 + 1))
  else
   some (x1, i1)

def qbF (n : Nat) (d : qj) : Option (List Tplace) :=
 (qaY d n ([] : List Tplace) 0).bind fun o => match o with
 | (x1, _) =>
  (qaX d n x1 0).bind fun o => match o with
  | (x4, _) =>
   some x4

theorem qdZ {n : Nat} {w : World} {d : qj} {cs1 : List Value} (ha1 : GoT.R w (old w) d cs1) {r : (List Tplace)} (hF : qbF n d = some r) : RetV Tryz.prog 76 [GoT.v qj cs1] w r := by
 obtain ⟨p1, k1, p2, k2, p3, k3, rfl, s1, s2, s3⟩ := qao ha1
 refine qe Tryz.func76 rfl (m := 61) rfl rfl (fun h => ?_)
 rw [qbF] at hF
 refine zSR (qN h rfl rfl ?_)
 intro w1 bb1 h
 refine zp1 rfl (zNSR (zp1 rfl (zNSSR (zp1 rfl (zl 0 0 h rfl (zp1 rfl ?_))))))
 refine zp1 rfl (qb ?_)
 replace h := h.nil (α := Tplace)
 obtain ⟨o1, hF, hK1⟩ := qd hF
 refine qw (qP [(1, _), (3, _), (11, _), (12, _), (13, _)] ⟨rfl, rfl, rfl, rfl, rfl, trivial⟩ ?_)
 refine qF (fun m e w' => ∃ (S1 : Nat → Prop) (p4 : Option Addr) (ln1 : Nat) (k4 : Nat) (x1 : (List Tplace)) (i1 : Int), qaY d m x1 i1 = some o1 ∧ e = [(1, .pointer (some ⟨bb1, 0, none⟩)), (3, .slice p4 ln1 k4), (11, .slice p1 d.Instances.length k1), (12, .int .i64 (d.Instances.length : Int)), (13, .int .i64 i1)] ∧ SH w w' [Ch.own S1 (x1 : List Tplace) [.slice p4 ln1 k4], Ch.box bb1 [.slice p1 d.Instances.length k1, .slice p2 d.Nets.length k2, .slice p3 d.Ports.length k3] 45]) n ⟨_, _, _, _, _, _, hF, rfl, h⟩ ?_
 rintro m1 e1 w2 ⟨S1, p4, ln1, k4, x1, i1, hF, rfl, h⟩
 obtain rfl := (h.sl 0 rfl).2
 rcases m1 with _ | m1
 ·rw [qaY] at hF
  cases hF
 rw [qaY] at hF
 refine zSR (zp1 rfl (zNS ?_))
 refine qu rfl hF ?_ ?_ <;> intro hF
 ·refine zKSBSR (zp1 rfl ?_)
  obtain ⟨y1, hy1, hF⟩ := qd hF
  have he1 := qf hy1
  obtain ⟨b1, o_1, q1, cs2, hp1, hq1, -, hr1, hc2⟩ := s1.at hy1
  obtain ⟨p5, k5, rfl, s4⟩ := qV hr1
  refine zxe hp1 hq1 he1 rfl (zc 0 (hc2.below h.below) rfl (qW qc h rfl rfl rfl ?_))
  intro w3 bb2 h
  refine zp1 rfl (zs 0 h rfl ?_)
  intro w4 h
  replace h : SH _ _ [Ch.box bb2 [.string y1.Name, .int .i64 y1.Cell, .slice p5 y1.Nets.length k5] 126, Ch.own S1 (x1 : List Tplace) [.slice p4 x1.length k4], Ch.box bb1 [.slice p1 d.Instances.length k1, .slice p2 d.Nets.length k2, .slice p3 d.Ports.length k3] 45] := h
  refine zNSR (zp1 rfl (zl 0 2 h rfl (zp2 rfl (qb ?_))))
  obtain ⟨o2, hF, hK2⟩ := qd hF
  refine qw (qP [(1, _), (3, _), (4, _), (5, _), (11, _), (12, _), (13, _), (19, _), (20, _), (21, _)] ⟨rfl, rfl, rfl, rfl, rfl, rfl, rfl, rfl, rfl, rfl, trivial⟩ ?_)
  refine qF (fun m e w' => ∃ (S2 : Nat → Prop) (p6 : Option Addr) (ln2 : Nat) (k6 : Nat) (x2 : (List Tplace)) (i2 : Int), qaZ i1 y1 m x2 i2 = some o2 ∧ e = [(1, .pointer (some ⟨bb1, 0, none⟩)), (3, .slice p6 ln2 k6), (4, .int .i64 i1), (5, .pointer (some ⟨bb2, 0, none⟩)), (11, .slice p1 d.Instances.length k1), (12, .int .i64 (d.Instances.length : Int)), (13, .int .i64 i1), (19, .slice p5 y1.Nets.length k5), (20, .int .i64 (y1.Nets.length : Int)), (21, .int .i64 i2)] ∧ SH w w' [Ch.box bb2 [.string y1.Name, .int .i64 y1.Cell, .slice p5 y1.Nets.length k5] 126, Ch.own S2 (x2 : List Tplace) [.slice p6 ln2 k6], Ch.box bb1 [.slice p1 d.Instances.length k1, .slice p2 d.Nets.length k2, .slice p3 d.Ports.length k3] 45]) m1 ⟨_, _, _, _, _, _, hF, rfl, h⟩ ?_
  rintro m2 e2 w5 ⟨S2, p6, ln2, k6, x2, i2, hF, rfl, h⟩
  obtain rfl := (h.sl 1 rfl).2
  rcases m2 with _ | m2
  ·rw [qaZ] at hF
   cases hF
  rw [qaZ] at hF
  refine zSR (zp1 rfl (zNS ?_))
  refine qu rfl hF ?_ ?_ <;> intro hF
  ·refine zKSBSR (zp1 rfl ?_)
   obtain ⟨y2, hy2, hF⟩ := qd hF
   have he2 := qf hy2
   obtain ⟨b2, o_2, q2, cs3, hp2, hq2, -, hr2, hc4⟩ := s4.at hy2
   obtain rfl := hr2
   refine zxe hp2 hq2 he2 rfl (zc 0 (hc4.below h.below) rfl (zp2 rfl (qb (qA (zp5 rfl (zp1 rfl ?_))))))
   refine zl 0 2 h rfl (zp3 rfl (r_v (qgF qc [0, 1, 2, 3] [.tmp 27, .tmp 28, .tmp 29, .tmp 35] rfl rfl rfl rfl rfl rfl rfl rfl) rfl (qat qc [.tmp 36] _ ([(⟨i1, i2, y2, (i2 == (W64 ((y1.Nets.length : Int) - 1)))⟩ : Tplace)] : List Tplace) h rfl rfl rfl rfl rfl rfl rfl rfl rfl ⟨(qga (⟨i1, i2, y2, (i2 == (W64 ((y1.Nets.length : Int) - 1)))⟩ : Tplace)), trivial⟩ rfl ?_)))
   intro w6 p7 S3 h
   obtain ⟨x3, hx1, hF⟩ := qd hF
   obtain ⟨g1, hx1⟩ := qa4 hx1
   refine qdG qc 2 h rfl (h.sl 0 rfl).1 (h.sl 0 rfl).2 rfl rfl rfl rfl rfl rfl rfl rfl rfl g1 hx1 rfl ?_
   intro w7 p8 k7 S4 h
   refine zp1 rfl (zNER (zp2 rfl (qb ?_)))
   replace h := h.pick [1, 2, 3] rfl
   exact qx m2 [(1, _), (3, _), (4, _), (5, _), (11, _), (12, _), (13, _), (19, _), (20, _), (21, _)] (Nat.lt_succ_self m2) ⟨rfl, rfl, rfl, rfl, rfl, rfl, rfl, rfl, rfl, rfl, trivial⟩ ⟨_, _, _, _, _, _, hF, rfl, h⟩
  refine qE rfl ?_
  obtain rfl := qh hF; replace hF := hK2
  refine qd1 (qA (zp2 rfl (qb ?_)))
  replace h := h.pick [1, 2] rfl
  exact qx m1 [(1, _), (3, _), (11, _), (12, _), (13, _)] (Nat.lt_succ_self m1) ⟨rfl, rfl, rfl, rfl, rfl, trivial⟩ ⟨_, _, _, _, _, _, hF, rfl, h⟩
 refine qE rfl ?_
 obtain rfl := qh hF; replace hF := hK1
 refine zSSR (zp1 rfl (zl 1 2 h rfl (zp2 rfl (qb ?_))))
 obtain ⟨o3, hF, hK3⟩ := qd hF
 refine qw ?_
 replace h := h.pick [0] rfl
 refine qP [(3, _), (42, _), (43, _), (44, _)] ⟨rfl, rfl, rfl, rfl, trivial⟩ ?_
 refine qF (fun m e w' => ∃ (S5 : Nat → Prop) (p9 : Option Addr) (ln3 : Nat) (k8 : Nat) (x4 : (List Tplace)) (i3 : Int), qaX d m x4 i3 = some o3 ∧ e = [(3, .slice p9 ln3 k8), (42, .slice p3 d.Ports.length k3), (43, .int .i64 (d.Ports.length : Int)), (44, .int .i64 i3)] ∧ SH w w' [Ch.own S5 (x4 : List Tplace) [.slice p9 ln3 k8]]) n ⟨_, _, _, _, _, _, hF, rfl, h⟩ ?_
 rintro m3 e3 w8 ⟨S5, p9, ln3, k8, x4, i3, hF, rfl, h⟩
 obtain rfl := (h.sl 0 rfl).2
 rcases m3 with _ | m3
 ·rw [qaX] at hF
  cases hF
 rw [qaX] at hF
 refine zSR (zp1 rfl (zNS ?_))
 refine qu rfl hF ?_ ?_ <;> intro hF
 ·refine zKSBSR (zp1 rfl ?_)
  obtain ⟨y3, hy3, hF⟩ := qd hF
  have he3 := qf hy3
  obtain ⟨b3, o_3, q3, cs4, hp3, hq3, -, hr3, hc6⟩ := s3.at hy3
  obtain rfl := qbc hr3
  refine zxe hp3 hq3 he3 rfl (zc 0 (hc6.below h.below) rfl (qW qc h rfl rfl rfl ?_))
  intro w9 bb3 h
  refine zp1 rfl (zs 0 h rfl ?_)
  intro w10 h
  refine qb (qA (zp3 rfl (zl 0 2 h rfl (zp1 rfl (zl 0 1 h rfl (zp1 rfl (r_v (qgF qc [0, 1, 2, 3] [.const (.int .i64 (-1)), .tmp 50, .tmp 52, .tmp 55] rfl rfl rfl rfl rfl rfl rfl rfl) rfl (qat qc [.tmp 56] _ ([(⟨(-1), i3, y3.Net, (y3.Dir == 1)⟩ : Tplace)] : List Tplace) h rfl rfl rfl rfl rfl rfl rfl rfl rfl ⟨(qga (⟨(-1), i3, y3.Net, (y3.Dir == 1)⟩ : Tplace)), trivial⟩ rfl ?_))))))))
  intro w11 p10 S6 h
  obtain ⟨x5, hx2, hF⟩ := qd hF
  obtain ⟨g2, hx2⟩ := qa4 hx2
  refine qdG qc 2 h rfl (h.sl 0 rfl).1 (h.sl 0 rfl).2 rfl rfl rfl rfl rfl rfl rfl rfl rfl g2 hx2 rfl ?_
  intro w12 p11 k9 S7 h
  refine zp1 rfl (zNER (zp2 rfl (qb ?_)))
  replace h := h.pick [2] rfl
  exact qx m3 [(3, _), (42, _), (43, _), (44, _)] (Nat.lt_succ_self m3) ⟨rfl, rfl, rfl, rfl, trivial⟩ ⟨_, _, _, _, _, _, hF, rfl, h⟩
 refine qE rfl ?_
 obtain rfl := qh hF; replace hF := hK3
 refine zSR (zp2 rfl (qb ?_))
 obtain rfl := qh hF
 exact qae qc (ρ := (List Tplace)) [GoT.v (List Tplace) [.slice p9 x4.length k8]] h ⟨rfl, trivial⟩ (PV.done h (qaf (qaC 0 h rfl)))

def qaM (a_w : qaa) : Nat → Int → Option (Flow Bool Int)
 | 0, _ => none
 | n + 1, i1 =>
  bif decide (i1 < (a_w.Parent.length : Int)) then
   (idx a_w.Parent i1).bind fun y1 =>
   bif (i1 == 0) then
    bif (y1 != (-1)) then
     some (.ret false)
    else
     (idx a_w.Res 0).bind fun y2 =>
     bif (y2 != 0) then
      some (.ret false)
     else
      bif decide (i1 > 0) then
       (qba n y1 0 (W64 (i1 - 1))).bind fun r1 =>
       bif (!r1) then
        some (.ret false)
       else
        qaM a_w n (W64 (i1 + 1))
      else
       qaM a_w n (W64 (i1 + 1))
   else
    bif decide (i1 > 0) then
     (qba n y1 0 (W64 (i1 - 1))).bind fun r2 =>
     bif (!r2) then
      some (.ret false)
     else
      qaM a_w n (W64 (i1 + 1))
    else
     qaM a_w n (W64 (i1 + 1))
  else
   some (.nxt i1)

def qeD (n : Nat) (a_w : qaa) : Option Bool :=
 (qaM a_w n 0).bind fun o => match o with
 | .ret r => some r
 | .nxt _ =>
  some true

theorem qjG {n : Nat} {w : World} {a_w : qaa} {cs1 : List Value} (ha1 : GoT.R w (old w) a_w cs1) {r : Bool} (hF : qeD n a_w = some r) : RetV Tryz.prog 130 [GoT.v qaa cs1] w r := by
 obtain ⟨p1, k1, p2, k2, p3, k3, p4, k4, rfl, s1, s2, s3, s4⟩ := qby ha1
 refine qe Tryz.func130 rfl (m := 38) rfl rfl (fun h => ?_)
 rw [qeD] at hF
 refine zSR (qN h rfl rfl ?_)
 intro w1 bb1 h
 refine zp1 rfl (zNSSR (zp1 rfl (zl 0 0 h rfl (zp2 rfl (qb ?_)))))
 obtain ⟨o1, hF, hK1⟩ := qd hF
 refine qw (qP [(1, _), (6, _), (7, _), (8, _)] ⟨rfl, rfl, rfl, rfl, trivial⟩ ?_)
 refine qF (fun m e w' => ∃ (i1 : Int), qaM a_w m i1 = some o1 ∧ e = [(1, .pointer (some ⟨bb1, 0, none⟩)), (6, .slice p1 a_w.Parent.length k1), (7, .int .i64 (a_w.Parent.length : Int)), (8, .int .i64 i1)] ∧ SH w w' [Ch.box bb1 [.slice p1 a_w.Parent.length k1, .slice p2 a_w.Res.length k2, .slice p3 a_w.Cap.length k3, .slice p4 a_w.Sink.length k4] 117]) n ⟨_, hF, rfl, h⟩ ?_
 rintro m1 e1 w2 ⟨i1, hF, rfl, h⟩
 rcases m1 with _ | m1
 ·rw [qaM] at hF
  cases hF
 rw [qaM] at hF
 refine zSR (zp1 rfl (zNS ?_))
 refine qu rfl hF ?_ ?_ <;> intro hF
 ·refine zKSBSR (zp1 rfl ?_)
  obtain ⟨y1, hy1, hF⟩ := qd hF
  have he1 := qf hy1
  obtain ⟨b1, o_1, q1, cs2, hp1, hq1, -, hr1, hc2⟩ := s1.at hy1
  obtain rfl := hr1
  refine zxe hp1 hq1 he1 rfl (zc 0 (hc2.below h.below) rfl (zp2 rfl (zNSR (zp3 rfl ?_))))
  by_cases hc3 : (i1 == 0) = true
  ·replace hF := bifT hc3 hF
   refine qB hc3 (t := 15) rfl (qa rfl (zp1 rfl (qa rfl (zp1 rfl (qa rfl (zp1 rfl ?_))))))
   by_cases hc4 : (y1 != (-1)) = true
   ·replace hF := bifT hc4 hF
    refine qB hc4 (t := 18) rfl (zn5 rfl (qa rfl (zp3 rfl (zn2 rfl ?_))))
    refine zn5 rfl (zn2 rfl (zp1 rfl (qb (qeU rfl rfl (zSR ?_)))))
    refine zp1 rfl (qb ?_)
    obtain rfl := qh hF; replace hF := hK1
    exact qz qc h hF ⟨rfl, trivial⟩
   replace hc4 := zb hc4
   replace hF := bifF hc4 hF
   refine qC hc4 (t := 18) rfl (qa rfl (zp1 rfl (qa rfl (zl 0 1 h rfl (qa rfl ?_)))))
   obtain ⟨y2, hy2, hF⟩ := qd hF
   have he2 := qf hy2
   obtain ⟨b2, o_2, q2, cs3, hp2, hq2, -, hr2, hc5⟩ := s2.at hy2
   obtain rfl := hr2
   refine zxe hp2 hq2 he2 rfl (qa rfl (zc 0 (hc5.below h.below) rfl (qa rfl (zp1 rfl (qa rfl (zp3 rfl ?_))))))
   by_cases hc6 : (y2 != 0) = true
   ·replace hF := bifT hc6 hF
    refine qB hc6 (t := 26) rfl (zn5 rfl (zn4 rfl (zp1 rfl (qb ?_))))
    refine qeU rfl rfl (zSR (zp1 rfl (qb ?_)))
    obtain rfl := qh hF; replace hF := hK1
    exact qz qc h hF ⟨rfl, trivial⟩
   replace hc6 := zb hc6
   replace hF := bifF hc6 hF
   refine qC hc6 (t := 26) rfl (qa rfl (zp1 rfl (qa rfl (zp1 rfl (qa rfl (zp1 rfl ?_))))))
   by_cases hc7 : (decide (i1 > 0)) = true
   ·replace hF := bifT hc7 hF
    refine qB hc7 (t := 29) rfl (qa rfl (zp1 rfl (qa rfl (zp1 rfl (qa rfl (zp1 rfl (qa rfl ?_)))))))
    obtain ⟨r1, hr3, hF⟩ := qd hF
    refine qp r1 h call100 (qaW hr3) rfl rfl rfl rfl ?_
    intro w3 h
    refine qa rfl (zp1 rfl (qa rfl (zp2 rfl (qb ?_))))
    refine qu rfl hF ?_ ?_ <;> intro hF
    ·refine zSR (zp1 rfl (qb ?_))
     obtain rfl := qh hF; replace hF := hK1
     exact qz qc h hF ⟨rfl, trivial⟩
    exact zKER (zp2 rfl (qb (qx m1 [(1, _), (6, _), (7, _), (8, _)] (Nat.lt_succ_self m1) ⟨rfl, rfl, rfl, rfl, trivial⟩ ⟨_, hF, rfl, h⟩)))
   replace hc7 := zb hc7
   replace hF := bifF hc7 hF
   refine qC hc7 (t := 29) rfl (zn5 rfl (qa rfl (zp2 rfl (qb (qdY rfl rfl (qeq ?_))))))
   exact qd1 (qA (zp2 rfl (qb (qx m1 [(1, _), (6, _), (7, _), (8, _)] (Nat.lt_succ_self m1) ⟨rfl, rfl, rfl, rfl, trivial⟩ ⟨_, hF, rfl, h⟩))))
  replace hc3 := zb hc3
  replace hF := bifF hc3 hF
  refine qC hc3 (t := 15) rfl (zn5 rfl (zn4 rfl (zp2 rfl ?_)))
  refine qa rfl (zp1 rfl (qa rfl (zp1 rfl (qa rfl (zp1 rfl ?_)))))
  by_cases hc9 : (decide (i1 > 0)) = true
  ·replace hF := bifT hc9 hF
   refine qB hc9 (t := 29) rfl (qa rfl (zp1 rfl (qa rfl (zp1 rfl (qa rfl (zp1 rfl (qa rfl ?_)))))))
   obtain ⟨r2, hr4, hF⟩ := qd hF
   refine qp r2 h call100 (qaW hr4) rfl rfl rfl rfl ?_
   intro w4 h
   refine qa rfl (zp1 rfl (qa rfl (zp2 rfl (qb ?_))))
   refine qu rfl hF ?_ ?_ <;> intro hF
   ·refine zSR (zp1 rfl (qb ?_))
    obtain rfl := qh hF; replace hF := hK1
    exact qz qc h hF ⟨rfl, trivial⟩
   exact zKER (zp2 rfl (qb (qx m1 [(1, _), (6, _), (7, _), (8, _)] (Nat.lt_succ_self m1) ⟨rfl, rfl, rfl, rfl, trivial⟩ ⟨_, hF, rfl, h⟩)))
  replace hc9 := zb hc9
  replace hF := bifF hc9 hF
  refine qC hc9 (t := 29) rfl (zn5 rfl (qa rfl (zp2 rfl (qb (qdY rfl rfl (qeq ?_))))))
  exact qd1 (qA (zp2 rfl (qb (qx m1 [(1, _), (6, _), (7, _), (8, _)] (Nat.lt_succ_self m1) ⟨rfl, rfl, rfl, rfl, trivial⟩ ⟨_, hF, rfl, h⟩))))
 refine qE rfl ?_
 obtain rfl := qh hF; replace hF := hK1
 exact zSR (zp1 rfl (qb (qz qc h hF ⟨rfl, trivial⟩)))

def qhc (n : Nat) (a_w : qaa) (sinks : Int) : Option Bool :=
 (qa6 n a_w.Parent).bind fun r1 =>
 (qba n r1 1 8).bind fun r2 =>
 bif r2 then
  (qa6 n a_w.Res).bind fun r3 =>
  bif (r3 == r1) then
   (qa6 n a_w.Cap).bind fun r4 =>
   bif (r4 == r1) then
    (qeD n a_w).bind fun r5 =>
    bif r5 then
     (qb6 n a_w.Res 0 1000).bind fun r6 =>
     bif r6 then
      (qb6 n a_w.Cap 0 500).bind fun r7 =>
      bif r7 then
       (qa6 n a_w.Sink).bind fun r8 =>
       bif (r8 == sinks) then
        (qb6 n a_w.Sink 0 (W64 (r1 - 1))).bind fun r9 =>
        some r9
       else
        some false
      else
       some false
     else
      some false
    else
     some false
   else
    some false
  else
   some false
 else
  some false

theorem qlY {n : Nat} {w : World} {a_w : qaa} {sinks : Int} {cs1 : List Value} (ha1 : GoT.R w (old w) a_w cs1) {r : Bool} (hF : qhc n a_w sinks = some r) : RetV Tryz.prog 77 [GoT.v qaa cs1, .int .i64 sinks] w r := by
 obtain ⟨p1, k1, p2, k2, p3, k3, p4, k4, rfl, s1, s2, s3, s4⟩ := qby ha1
 refine qe Tryz.func77 rfl (m := 53) rfl rfl (fun h => ?_)
 rw [qhc] at hF
 refine zSR (qN h rfl rfl ?_)
 intro w1 bb1 h
 refine zp1 rfl (zNSR (zp1 rfl (zl 0 0 h rfl ?_)))
 obtain ⟨r1, hr1, hF⟩ := qd hF
 refine qT r1 h call79 (qct ⟨_, _, rfl, (h.oldS s1)⟩ hr1) rfl rfl rfl rfl ?_
 intro w2 h
 refine zp1 rfl (zNSR (zp1 rfl ?_))
 obtain ⟨r2, hr2, hF⟩ := qd hF
 refine qp r2 h call100 (qaW hr2) rfl rfl rfl rfl ?_
 intro w3 h
 refine zp1 rfl ?_
 by_cases hc1 : r2 = true
 ·replace hF := bifT hc1 hF
  refine qB hc1 (t := 11) rfl (qa rfl (zp1 rfl (qa rfl (zl 0 1 h rfl (qa rfl ?_)))))
  obtain ⟨r3, hr3, hF⟩ := qd hF
  refine qT r3 h call79 (qct ⟨_, _, rfl, (h.oldS s2)⟩ hr3) rfl rfl rfl rfl ?_
  intro w4 h
  refine qa rfl (zp1 rfl (qa rfl (zp3 rfl ?_)))
  by_cases hc2 : (r3 == r1) = true
  ·replace hF := bifT hc2 hF
   refine qB hc2 (t := 18) rfl (qa rfl (zp1 rfl (qa rfl (zl 0 2 h rfl (qa rfl ?_)))))
   obtain ⟨r4, hr4, hF⟩ := qd hF
   refine qT r4 h call79 (qct ⟨_, _, rfl, (h.oldS s3)⟩ hr4) rfl rfl rfl rfl ?_
   intro w5 h
   refine qa rfl (zp1 rfl (qa rfl (zp3 rfl ?_)))
   by_cases hc3 : (r4 == r1) = true
   ·replace hF := bifT hc3 hF
    refine qB hc3 (t := 25) rfl (qa rfl (zl 0 0 h rfl (qa rfl ?_)))
    obtain ⟨r5, hr5, hF⟩ := qd hF
    refine qp r5 h call130 (qjG (h.old ha1) hr5) rfl rfl rfl rfl ?_
    intro w6 h
    refine zp2 rfl ?_
    by_cases hc4 : r5 = true
    ·replace hF := bifT hc4 hF
     refine qB hc4 (t := 29) rfl (qa rfl (zp1 rfl (qa rfl (zl 0 1 h rfl (qa rfl ?_)))))
     obtain ⟨r6, hr6, hF⟩ := qd hF
     refine qp r6 h call82 (qds ⟨_, _, rfl, (h.oldS s2)⟩ hr6) rfl rfl rfl rfl ?_
     intro w7 h
     refine zp2 rfl ?_
     by_cases hc5 : r6 = true
     ·replace hF := bifT hc5 hF
      refine qB hc5 (t := 34) rfl (qa rfl (zp1 rfl (qa rfl (zl 0 2 h rfl (qa rfl ?_)))))
      obtain ⟨r7, hr7, hF⟩ := qd hF
      refine qp r7 h call82 (qds ⟨_, _, rfl, (h.oldS s3)⟩ hr7) rfl rfl rfl rfl ?_
      intro w8 h
      refine zp2 rfl ?_
      by_cases hc6 : r7 = true
      ·replace hF := bifT hc6 hF
       refine qB hc6 (t := 39) rfl (qa rfl (zp1 rfl (qa rfl (zl 0 3 h rfl (qa rfl ?_)))))
       obtain ⟨r8, hr8, hF⟩ := qd hF
       refine qT r8 h call79 (qct ⟨_, _, rfl, (h.oldS s4)⟩ hr8) rfl rfl rfl rfl ?_
       intro w9 h
       refine qa rfl (zp1 rfl (qa rfl (zp3 rfl ?_)))
       by_cases hc7 : (r8 == sinks) = true
       ·replace hF := bifT hc7 hF
        refine qB hc7 (t := 46) rfl (qa rfl (zp1 rfl (qa rfl (zl 0 3 h rfl (qa rfl (zp1 rfl (qa rfl (zp1 rfl (qa rfl ?_)))))))))
        obtain ⟨r9, hr9, hF⟩ := qd hF
        refine qp r9 h call82 (qds ⟨_, _, rfl, (h.oldS s4)⟩ hr9) rfl rfl rfl rfl ?_
        intro w10 h
        exact zp2 rfl (qb (qz qc h hF ⟨rfl, trivial⟩))
       replace hc7 := zb hc7
       replace hF := bifF hc7 hF
       exact qC hc7 (t := 46) rfl (zn5 rfl (zp2 rfl (qb (qz qc h hF ⟨rfl, trivial⟩))))
      replace hc6 := zb hc6
      replace hF := bifF hc6 hF
      refine qC hc6 (t := 39) rfl (zn5 rfl (zp2 rfl (zn4 rfl ?_)))
      exact zn1 rfl (zp2 rfl (qb (qz qc h hF ⟨rfl, trivial⟩)))
     replace hc5 := zb hc5
     replace hF := bifF hc5 hF
     refine qC hc5 (t := 34) rfl (zn3 rfl (zp2 rfl (zn5 rfl (zp1 rfl ?_))))
     exact zp1 rfl (zn5 rfl (zp2 rfl (qb (qz qc h hF ⟨rfl, trivial⟩))))
    replace hc4 := zb hc4
    replace hF := bifF hc4 hF
    refine qC hc4 (t := 29) rfl (zn3 rfl (zp2 rfl (zn3 rfl (zp2 rfl (zn1 rfl ?_)))))
    refine zn4 rfl (zp2 rfl (zn5 rfl (zp1 rfl ?_)))
    exact zp1 rfl (qb (qz qc h hF ⟨rfl, trivial⟩))
   replace hc3 := zb hc3
   replace hF := bifF hc3 hF
   refine qC hc3 (t := 25) rfl (zn2 rfl (zp2 rfl (zn3 rfl (zp2 rfl (zn2 rfl ?_)))))
   refine zn1 rfl (zp2 rfl (zn5 rfl (zp2 rfl (zn2 rfl ?_))))
   exact zn3 rfl (zp2 rfl (qb (qz qc h hF ⟨rfl, trivial⟩)))
  replace hc2 := zb hc2
  replace hF := bifF hc2 hF
  refine qC hc2 (t := 18) rfl (zn5 rfl (zp2 rfl (zn2 rfl (zp2 rfl ?_))))
  refine zn3 rfl (zp2 rfl (zn3 rfl (zp2 rfl (zn2 rfl ?_))))
  refine zn3 rfl (zp2 rfl (zn5 rfl (zp2 rfl ?_)))
  exact qb (qz qc h hF ⟨rfl, trivial⟩)
 replace hc1 := zb hc1
 replace hF := bifF hc1 hF
 refine qC hc1 (t := 11) rfl (zn5 rfl (zp2 rfl (zn4 rfl ?_)))
 refine zn1 rfl (zp2 rfl (zn2 rfl (zp2 rfl (zn3 rfl (zp2 rfl ?_)))))
 refine zn3 rfl (zp2 rfl (zn5 rfl (zp2 rfl ?_)))
 exact zn5 rfl (zp2 rfl (qb (qz qc h hF ⟨rfl, trivial⟩)))

def qcT (b : ql) (x2 : (List Int)) : Nat → Int → Option (Flow Bool Int)
 | 0, _ => none
 | n + 1, i2 =>
  bif decide (i2 < (b.Wires.length : Int)) then
   (idx b.Wires i2).bind fun y4 =>
   (idx x2 i2).bind fun y5 =>
   (qhc n y4 y5).bind fun r2 =>
   bif (!r2) then
    some (.ret false)
   else
    qcT b x2 n (W64 (i2 + 1))
  else
   some (.nxt i2)

def qbO (r1 : (List Tplace)) : Nat → (List Int) → Int → Option ((List Int) × Int)
 | 0, _, _ => none
 | n + 1, x2, i1 =>
  bif decide (i1 < (r1.length : Int)) then
   (idx r1 i1).bind fun y1 =>
   bif (!y1.drives) then
    (idx x2 y1.net).bind fun y2 =>
    (idx x2 y1.net).bind fun _ =>
    qbO r1 n (setS x2 y1.net (W64 (y2 + 1))) (W64 (i1 + 1))
   else
    qbO r1 n x2 (W64 (i1 + 1))
  else
   some (x2, i1)

def qgt (n : Nat) (b : ql) : Option Bool :=
 (
  (qfZ n (⟨b.Library.Cells⟩ : qv) (⟨b.Design.Instances, b.Design.Nets, b.Design.Ports⟩ : qj)).bind fun r3 =>
  bif (!r3) then
   some true
  else
   some ((b.Wires.length : Int) != (b.Design.Nets.length : Int))).bind fun b1 =>
 bif b1 then
  some false
 else
  (mkS (b.Wires.length : Int) (0 : Int)).bind fun x1 =>
  (qbF n (⟨b.Design.Instances, b.Design.Nets, b.Design.Ports⟩ : qj)).bind fun r1 =>
  (qbO r1 n x1 0).bind fun o => match o with
  | (x2, _) =>
   (qcT b x2 n 0).bind fun o => match o with
   | .ret r => some r
   | .nxt _ =>
    some true

theorem qk4 {n : Nat} {w : World} {b : ql} {cs1 : List Value} (ha1 : GoT.R w (old w) b cs1) {r : Bool} (hF : qgt n b = some r) : RetV Tryz.prog 39 [GoT.v ql cs1] w r := by
 obtain ⟨p1, k1, p2, k2, p3, k3, p4, k4, p5, k5, rfl, s1, s2, s3, s4, s5⟩ := qag ha1
 refine qe Tryz.func39 rfl (m := 63) rfl rfl (fun h => ?_)
 rw [qgt] at hF
 refine zSR (qN h rfl rfl ?_)
 intro w1 bb1 h
 refine zp1 rfl (zNSS ?_)
 obtain ⟨KF1, hKF1, o3, hF, hK3⟩ := bindE hF
 refine qek (fun e w' => ∃ (b1 : Bool), KF1 b1 = some r ∧ e = [(1, .pointer (some ⟨bb1, 0, none⟩)), (23, .bool b1)] ∧ SH w w' [Ch.box bb1 [.slice p1 b.Library.Cells.length k1, .slice p2 b.Design.Instances.length k2, .slice p3 b.Design.Nets.length k3, .slice p4 b.Design.Ports.length k4, .slice p5 b.Wires.length k5] 48]) ?_ ?_
 ·refine qA (zp1 rfl (zl 0 0 h rfl (zp1 rfl (zl 0 1 h rfl ?_))))
  obtain ⟨r3, hr8, hF⟩ := qd hF
  refine qp r3 h call75 (qkx (qcI (⟨b.Library.Cells⟩ : qv) (h.oldS s1)) (qaS (⟨b.Design.Instances, b.Design.Nets, b.Design.Ports⟩ : qj) (h.oldS s2) (h.oldS s3) (h.oldS s4)) hr8) rfl rfl rfl rfl ?_
  intro w12 h
  refine zp2 rfl ?_
  by_cases hc11 : (!r3) = true
  ·replace hF := bifT hc11 hF
   refine qB hc11 (t := 14) rfl (zn5 rfl (zn3 rfl (zp1 rfl (qb ?_))))
   obtain rfl := qh hF
   exact qy [(1, _), (23, _)] ⟨rfl, rfl, trivial⟩ ⟨_, hK3, rfl, h⟩
  replace hc11 := zb hc11
  replace hF := bifF hc11 hF
  refine qC hc11 (t := 14) rfl (qa rfl (zp1 rfl (qa rfl (zl 0 4 h rfl (qa rfl (zp1 rfl (qa rfl (zp1 rfl (qa rfl (zp1 rfl (qa rfl ?_)))))))))))
  refine zl 0 2 h rfl (qa rfl (zp1 rfl (qa rfl (zp2 rfl (qb ?_)))))
  obtain rfl := qh hF
  exact qy [(1, _), (23, _)] ⟨rfl, rfl, trivial⟩ ⟨_, hK3, rfl, h⟩
 rintro e3 w13 ⟨b1, hF, rfl, h⟩
 subst hKF1
 refine qu rfl hF ?_ ?_ <;> intro hF
 ·exact zSR (zp1 rfl (qb (qz qc h hF ⟨rfl, trivial⟩)))
 refine zKSR (zp1 rfl (zl 0 4 h rfl (zp1 rfl ?_)))
 obtain ⟨x1, hx1, hF⟩ := qd hF
 obtain ⟨g1, g2, hx1⟩ := qcn hx1
 refine qdo qc Int h rfl rfl rfl rfl rfl rfl rfl rfl rfl g1 g2 hx1 rfl ?_
 intro w2 S1 p6 h
 refine zp1 rfl (zNSSR (zp1 rfl (zl 1 1 h rfl ?_)))
 obtain ⟨r1, hr1, hF⟩ := qd hF
 refine qas r1 h call76 (qdZ (qaS (⟨b.Design.Instances, b.Design.Nets, b.Design.Ports⟩ : qj) (h.oldS s2) (h.oldS s3) (h.oldS s4)) hr1) rfl rfl rfl rfl ?_
 intro w3 S2 p7 k6 h
 refine zp2 rfl (qb ?_)
 obtain ⟨o1, hF, hK1⟩ := qd hF
 refine qw (qP [(1, _), (3, _), (30, _), (31, _), (32, _)] ⟨rfl, rfl, rfl, rfl, rfl, trivial⟩ ?_)
 refine qF (fun m e w' => ∃ (x2 : (List Int)) (i1 : Int), qbO r1 m x2 i1 = some o1 ∧ e = [(1, .pointer (some ⟨bb1, 0, none⟩)), (3, .slice p6 x1.length x1.length), (30, .slice p7 r1.length k6), (31, .int .i64 (r1.length : Int)), (32, .int .i64 i1)] ∧ SH w w' [Ch.own S2 (r1 : List Tplace) [.slice p7 r1.length k6], Ch.own S1 (x2 : List Int) [.slice p6 x1.length x1.length], Ch.box bb1 [.slice p1 b.Library.Cells.length k1, .slice p2 b.Design.Instances.length k2, .slice p3 b.Design.Nets.length k3, .slice p4 b.Design.Ports.length k4, .slice p5 b.Wires.length k5] 48]) n ⟨_, _, hF, rfl, h⟩ ?_
 rintro m1 e1 w4 ⟨x2, i1, hF, rfl, h⟩
 rcases m1 with _ | m1
 ·rw [qbO] at hF
  cases hF
 rw [qbO] at hF
 refine zSR (zp1 rfl (zNS ?_))
 refine qu rfl hF ?_ ?_ <;> intro hF
 ·refine zKSBSR ?_
  obtain ⟨y1, hy1, hF⟩ := qd hF
  have he1 := qf hy1
  obtain ⟨b2, o_1, q1, cs2, hp1, hq1, -, hr2, hc3⟩ := (h.sl 0 rfl).1.at hy1
  obtain rfl := qcj hr2
  refine zx hp1 hq1 ⟨he1.1, qY he1.2.1 (h.sl 0 rfl).2⟩ rfl (zc 0 hc3 rfl (qW qc h rfl rfl rfl ?_))
  intro w5 bb2 h
  refine zs 0 h rfl ?_
  intro w6 h
  refine zNSR (zp1 rfl (zl 0 3 h rfl (zp1 rfl (qb ?_))))
  refine qu rfl hF ?_ ?_ <;> intro hF
  ·refine qA (zp2 rfl (zl 0 2 h rfl ?_))
   obtain ⟨y2, hy2, hF⟩ := qd hF
   have he2 := qf hy2
   obtain ⟨b3, o_2, q2, cs3, hp2, hq2, -, hr3, hc5⟩ := (h.sl 2 rfl).1.at hy2
   obtain rfl := hr3
   refine zx hp2 hq2 ⟨he2.1, qY he2.2.1 (h.sl 2 rfl).2⟩ rfl (zc 0 hc5 rfl (zp1 rfl ?_))
   obtain ⟨y3, hy3, hF⟩ := qd hF
   have he3 := qf hy3
   obtain ⟨b4, o_3, q3, cs4, hp3, hq3, -, hr4, hc6⟩ := (h.sl 2 rfl).1.at hy3
   obtain rfl := hr4
   refine zx hp3 hq3 ⟨he3.1, qY he3.2.1 (h.sl 2 rfl).2⟩ rfl (qcH qc 2 0 (W64 (y2 + 1)) h rfl hy3 hp3 hq3 rfl hc6 rfl rfl rfl rfl rfl rfl rfl ?_)
   intro w7 h
   refine zNER (zp2 rfl (qb ?_))
   replace h := h.pick [1, 2, 3] rfl
   exact qx m1 [(1, _), (3, _), (30, _), (31, _), (32, _)] (Nat.lt_succ_self m1) ⟨rfl, rfl, rfl, rfl, rfl, trivial⟩ ⟨_, _, hF, rfl, h⟩
  refine zKER (zp2 rfl (qb ?_))
  replace h := h.pick [1, 2, 3] rfl
  exact qx m1 [(1, _), (3, _), (30, _), (31, _), (32, _)] (Nat.lt_succ_self m1) ⟨rfl, rfl, rfl, rfl, rfl, trivial⟩ ⟨_, _, hF, rfl, h⟩
 refine qE rfl ?_
 obtain rfl := qh hF; replace hF := hK1
 refine zSSR (zp1 rfl (zl 2 4 h rfl (zp2 rfl (qb ?_))))
 obtain ⟨o2, hF, hK2⟩ := qd hF
 refine qw ?_
 replace h := h.pick [1] rfl
 refine qP [(3, _), (48, _), (49, _), (50, _)] ⟨rfl, rfl, rfl, rfl, trivial⟩ ?_
 refine qF (fun m e w' => ∃ (i2 : Int), qcT b x2 m i2 = some o2 ∧ e = [(3, .slice p6 x1.length x1.length), (48, .slice p5 b.Wires.length k5), (49, .int .i64 (b.Wires.length : Int)), (50, .int .i64 i2)] ∧ SH w w' [Ch.own S1 (x2 : List Int) [.slice p6 x1.length x1.length]]) n ⟨_, hF, rfl, h⟩ ?_
 rintro m2 e2 w8 ⟨i2, hF, rfl, h⟩
 rcases m2 with _ | m2
 ·rw [qcT] at hF
  cases hF
 rw [qcT] at hF
 refine zSR (zp1 rfl (zNS ?_))
 refine qu rfl hF ?_ ?_ <;> intro hF
 ·refine zKSBSR (zp1 rfl ?_)
  obtain ⟨y4, hy4, hF⟩ := qd hF
  have he4 := qf hy4
  obtain ⟨b5, o_4, q4, cs5, hp4, hq4, -, hr5, hc8⟩ := s5.at hy4
  obtain ⟨p8, k7, p9, k8, p10, k9, p11, k10, rfl, s6, s7, s8, s9⟩ := qby hr5
  refine zxe hp4 hq4 he4 rfl (zc 0 (hc8.below h.below) rfl (qW qc h rfl rfl rfl ?_))
  intro w9 bb3 h
  refine zp1 rfl (zs 0 h rfl ?_)
  intro w10 h
  replace h : SH _ _ [Ch.box bb3 [.slice p8 y4.Parent.length k7, .slice p9 y4.Res.length k8, .slice p10 y4.Cap.length k9, .slice p11 y4.Sink.length k10] 117, Ch.own S1 (x2 : List Int) [.slice p6 x1.length x1.length]] := h
  refine zNS ?_
  refine qcA rfl (by kernel_rfl) ?_
  refine zdl 0 0 h rfl ?_
  refine zd2 rfl ?_
  obtain ⟨y5, hy5, hF⟩ := qd hF
  have he5 := qf hy5
  obtain ⟨b6, o_5, q5, cs6, hp5, hq5, -, hr6, hc9⟩ := (h.sl 1 rfl).1.at hy5
  obtain rfl := hr6
  refine zdx hp5 hq5 ⟨he5.1, qY he5.2.1 (h.sl 1 rfl).2⟩ rfl ?_
  refine zdc 0 hc9 rfl ?_
  obtain ⟨r2, hr7, hF⟩ := qd hF
  refine qcD r2 (vsB _) call77 (fun _ hb => qlY (qhF y4 ((h.ext hb).oldS s6) ((h.ext hb).oldS s7) ((h.ext hb).oldS s8) ((h.ext hb).oldS s9)) hr7) rfl rfl rfl rfl ?_
  refine zd1 rfl ?_
  refine qbb (fun w11 hb => ?_)
  replace h := h.ext hb
  clear hb
  refine qu rfl hF ?_ ?_ <;> intro hF
  ·refine zSR (zp1 rfl (qb ?_))
   obtain rfl := qh hF; replace hF := hK2
   exact qz qc h hF ⟨rfl, trivial⟩
  refine zKER (zp2 rfl (qb ?_))
  replace h := h.pick [1] rfl
  exact qx m2 [(3, _), (48, _), (49, _), (50, _)] (Nat.lt_succ_self m2) ⟨rfl, rfl, rfl, rfl, trivial⟩ ⟨_, hF, rfl, h⟩
 refine qE rfl ?_
 obtain rfl := qh hF; replace hF := hK2
 exact zSR (zp1 rfl (qb (qz qc h hF ⟨rfl, trivial⟩)))

end Go.Fw


namespace Go.Fw
open Go

def qdD (a : (List Int)) : Nat := a.length
theorem qea {a : (List Int)} (h : (rngL rngI) a) (w : qdD a ≤ 1048576) : (okL okI) a :=
  ⟨by simp only [qdD] at w; omega, fun x hx => h.2 x hx⟩
def qgc (x : qG) : Prop := (rngL rngI) x.Slews ∧ (rngL rngI) x.Loads ∧ (rngL rngI) x.Values
def qe0 (x : qG) : Nat := qdD x.Slews + qdD x.Loads + qdD x.Values
structure qgs (x : qG) : Prop where
  Slews : (okL okI) x.Slews
  Loads : (okL okI) x.Loads
  Values : (okL okI) x.Values
theorem qn2 {x : qG} (h : qgc x) (w : qe0 x ≤ 1048576) : qgs x := ⟨qea (h.1) (by simp only [qe0] at w; omega), qea (h.2.1) (by simp only [qe0] at w; omega), qea (h.2.2) (by simp only [qe0] at w; omega)⟩
def qe9 (a : (List qG)) : Nat := a.length + (a.map fun x => qe0 x).sum
theorem qkK {a : (List qG)} (h : (rngL qgc) a) (w : qe9 a ≤ 1048576) : (okL qgs) a :=
  ⟨by simp only [qe9] at w; omega, fun x hx => qn2 (h.2 x hx) (by have := qd3 (wt := fun x : qG => qe0 x) hx; simp only [qe9] at w; omega)⟩
def qiy (x : qZ) : Prop := rngI x.Kind ∧ rngI x.From ∧ rngI x.To ∧ rngI x.Sense ∧ (rngL qgc) x.Delay ∧ (rngL qgc) x.Slew
def qh6 (x : qZ) : Nat := qe9 x.Delay + qe9 x.Slew
structure qjV (x : qZ) : Prop where
  Kind : okI x.Kind
  From : okI x.From
  To : okI x.To
  Sense : okI x.Sense
  Delay : (okL qgs) x.Delay
  Slew : (okL qgs) x.Slew
theorem qpv {x : qZ} (h : qiy x) (w : qh6 x ≤ 1048576) : qjV x := ⟨h.1, h.2.1, h.2.2.1, h.2.2.2.1, qkK (h.2.2.2.2.1) (by simp only [qh6] at w; omega), qkK (h.2.2.2.2.2) (by simp only [qh6] at w; omega)⟩
theorem qfL {a : (List Int)} (h : qdD a ≤ 1048576) : Ev (fun n => qbr n a a) true := by
  have hl : a.length ≤ 1048576 := by simp only [qdD] at h; omega
  unfold qbr
  exact Ev.ff (by simp) (Ev.bind (b := .nxt (a.length : Int)) (qhv (eqf := fun _ x y => some (!(x != y))) (fun x _ => Ev.now (by simp))
    (fun n => by simp only [qc3, qt (Nat.le_refl _), cond_false])
    (fun n j x hx => by
      have hj := (List.getElem?_eq_some_iff.1 hx).1
      simp only [qc3, qq hj, cond_true, qaU hx, Option.bind_some, Bool.not_not, qm (show j < 9223372036854775807 by omega)])) .done)

theorem qpC {a : qG} (h : qe0 a ≤ 1048576) : Ev (fun n => qfz n a a) true := by
  unfold qfz
  simp only [qe0] at h
  exact Ev.bind (qfL (a := a.Slews) (by omega)) (Ev.ff rfl (Ev.bind (qfL (a := a.Loads) (by omega)) (Ev.ff rfl (Ev.bind (qfL (a := a.Values) (by omega)) (Ev.ff rfl (.done))))))

theorem qmF {a : (List qG)} (h : qe9 a ≤ 1048576) : Ev (fun n => qfa n a a) true := by
  have hl : a.length ≤ 1048576 := by simp only [qe9] at h; omega
  unfold qfa
  exact Ev.ff (by simp) (Ev.bind (b := .nxt (a.length : Int)) (qhv (eqf := qfz) (fun x hx => qpC (by have := qd3 (wt := fun x : qG => qe0 x) hx; simp only [qe9] at h; omega))
    (fun n => by simp only [qc4, qt (Nat.le_refl _), cond_false])
    (fun n j x hx => by
      have hj := (List.getElem?_eq_some_iff.1 hx).1
      simp only [qc4, qq hj, cond_true, qaU hx, Option.bind_some, qm (show j < 9223372036854775807 by omega)])) .done)

theorem qq5 {a : qZ} (h : qh6 a ≤ 1048576) : Ev (fun n => qgZ n a a) true := by
  unfold qgZ
  simp only [qh6] at h
  exact Ev.ff qcZ (Ev.ff qcZ (Ev.ff qcZ (Ev.ff qcZ (Ev.bind (qmF (a := a.Delay) (by omega)) (Ev.ff rfl (Ev.bind (qmF (a := a.Slew) (by omega)) (Ev.ff rfl (.done))))))))

def qhO (a : (List qZ)) : Nat := a.length + (a.map fun x => qh6 x).sum
theorem qoX {a : (List qZ)} (h : (rngL qiy) a) (w : qhO a ≤ 1048576) : (okL qjV) a :=
  ⟨by simp only [qhO] at w; omega, fun x hx => qpv (h.2 x hx) (by have := qd3 (wt := fun x : qZ => qh6 x) hx; simp only [qhO] at w; omega)⟩
theorem qqJ {a : (List qZ)} (h : qhO a ≤ 1048576) : Ev (fun n => qhi n a a) true := by
  have hl : a.length ≤ 1048576 := by simp only [qhO] at h; omega
  unfold qhi
  exact Ev.ff (by simp) (Ev.bind (b := .nxt (a.length : Int)) (qhv (eqf := qgZ) (fun x hx => qq5 (by have := qd3 (wt := fun x : qZ => qh6 x) hx; simp only [qhO] at h; omega))
    (fun n => by simp only [qdR, qt (Nat.le_refl _), cond_false])
    (fun n j x hx => by
      have hj := (List.getElem?_eq_some_iff.1 hx).1
      simp only [qdR, qq hj, cond_true, qaU hx, Option.bind_some, qm (show j < 9223372036854775807 by omega)])) .done)

def qiF (x : qau) : Prop := rngS x.Name ∧ rngI x.Dir ∧ rngI x.Cap ∧ rngB x.Clock
def qi6 (x : qau) : Nat := x.Name.size
structure qiW (x : qau) : Prop where
  Name : okS x.Name
  Dir : okI x.Dir
  Cap : okI x.Cap
  Clock : okT x.Clock
theorem qpE {x : qau} (h : qiF x) (w : qi6 x ≤ 1048576) : qiW x := ⟨(by unfold okS; simp only [qi6] at w; omega), h.2.1, h.2.2.1, trivial⟩
def qhM (a : (List qau)) : Nat := a.length + (a.map fun x => qi6 x).sum
theorem qpa {a : (List qau)} (h : (rngL qiF) a) (w : qhM a ≤ 1048576) : (okL qiW) a :=
  ⟨by simp only [qhM] at w; omega, fun x hx => qpE (h.2 x hx) (by have := qd3 (wt := fun x : qau => qi6 x) hx; simp only [qhM] at w; omega)⟩
def qhQ (x : qD) : Prop := rngS x.Name ∧ rngI x.Kind ∧ (rngL qiF) x.Pins ∧ (rngL qiy) x.Arcs ∧ (rngL rngI) x.Truth ∧ rngI x.Leak ∧ rngI x.Energy
def qfQ (x : qD) : Nat := x.Name.size + qhM x.Pins + qhO x.Arcs + qdD x.Truth
structure qjt (x : qD) : Prop where
  Name : okS x.Name
  Kind : okI x.Kind
  Pins : (okL qiW) x.Pins
  Arcs : (okL qjV) x.Arcs
  Truth : (okL okI) x.Truth
  Leak : okI x.Leak
  Energy : okI x.Energy
theorem qoW {x : qD} (h : qhQ x) (w : qfQ x ≤ 1048576) : qjt x := ⟨(by unfold okS; simp only [qfQ] at w; omega), h.2.1, qpa (h.2.2.1) (by simp only [qfQ] at w; omega), qoX (h.2.2.2.1) (by simp only [qfQ] at w; omega), qea (h.2.2.2.2.1) (by simp only [qfQ] at w; omega), h.2.2.2.2.2.1, h.2.2.2.2.2.2⟩
def qgE (a : (List qD)) : Nat := a.length + (a.map fun x => qfQ x).sum
theorem qoc {a : (List qD)} (h : (rngL qhQ) a) (w : qgE a ≤ 1048576) : (okL qjt) a :=
  ⟨by simp only [qgE] at w; omega, fun x hx => qoW (h.2 x hx) (by have := qd3 (wt := fun x : qD => qfQ x) hx; simp only [qgE] at w; omega)⟩
def qh5 (x : qv) : Prop := (rngL qhQ) x.Cells
def qfJ (x : qv) : Nat := qgE x.Cells
structure qf9 (x : qv) : Prop where
  Cells : (okL qjt) x.Cells
theorem qmW {x : qv} (h : qh5 x) (w : qfJ x ≤ 1048576) : qf9 x := ⟨qoc (h) (by simp only [qfJ] at w; omega)⟩
def qeW (x : qn) : Prop := rngS x.Name ∧ rngI x.Cell ∧ (rngL rngI) x.Nets
def qcM (x : qn) : Nat := x.Name.size + qdD x.Nets
structure qjn (x : qn) : Prop where
  Name : okS x.Name
  Cell : okI x.Cell
  Nets : (okL okI) x.Nets
theorem qmc {x : qn} (h : qeW x) (w : qcM x ≤ 1048576) : qjn x := ⟨(by unfold okS; simp only [qcM] at w; omega), h.2.1, qea (h.2.2) (by simp only [qcM] at w; omega)⟩
def qdf (a : (List qn)) : Nat := a.length + (a.map fun x => qcM x).sum
theorem qlC {a : (List qn)} (h : (rngL qeW) a) (w : qdf a ≤ 1048576) : (okL qjn) a :=
  ⟨by simp only [qdf] at w; omega, fun x hx => qmc (h.2 x hx) (by have := qd3 (wt := fun x : qn => qcM x) hx; simp only [qdf] at w; omega)⟩
def qfG (a : (List ByteArray)) : Nat := a.length + (a.map fun x => x.size).sum
theorem qmY {a : (List ByteArray)} (_ : (rngL rngS) a) (w : qfG a ≤ 1048576) : (okL okS) a :=
  ⟨by simp only [qfG] at w; omega, fun x hx => (by unfold okS; have := qd3 (wt := fun x : ByteArray => x.size) hx; simp only [qfG] at w; omega)⟩
def qhK (x : qak) : Prop := rngS x.Name ∧ rngI x.Dir ∧ rngI x.Net
def qhT (x : qak) : Nat := x.Name.size
structure qmJ (x : qak) : Prop where
  Name : okS x.Name
  Dir : okI x.Dir
  Net : okI x.Net
theorem qoO {x : qak} (h : qhK x) (w : qhT x ≤ 1048576) : qmJ x := ⟨(by unfold okS; simp only [qhT] at w; omega), h.2.1, h.2.2⟩
def qgA (a : (List qak)) : Nat := a.length + (a.map fun x => qhT x).sum
theorem qom {a : (List qak)} (h : (rngL qhK) a) (w : qgA a ≤ 1048576) : (okL qmJ) a :=
  ⟨by simp only [qgA] at w; omega, fun x hx => qoO (h.2 x hx) (by have := qd3 (wt := fun x : qak => qhT x) hx; simp only [qgA] at w; omega)⟩
def qiB (x : qj) : Prop := (rngL qeW) x.Instances ∧ (rngL rngS) x.Nets ∧ (rngL qhK) x.Ports
def qfs (x : qj) : Nat := qdf x.Instances + qfG x.Nets + qgA x.Ports
structure qhE (x : qj) : Prop where
  Instances : (okL qjn) x.Instances
  Nets : (okL okS) x.Nets
  Ports : (okL qmJ) x.Ports
theorem qnh {x : qj} (h : qiB x) (w : qfs x ≤ 1048576) : qhE x := ⟨qlC (h.1) (by simp only [qfs] at w; omega), qmY (h.2.1) (by simp only [qfs] at w; omega), qom (h.2.2) (by simp only [qfs] at w; omega)⟩
def qhI (x : qaa) : Prop := (rngL rngI) x.Parent ∧ (rngL rngI) x.Res ∧ (rngL rngI) x.Cap ∧ (rngL rngI) x.Sink
def qfR (x : qaa) : Nat := qdD x.Parent + qdD x.Res + qdD x.Cap + qdD x.Sink
structure qkb (x : qaa) : Prop where
  Parent : (okL okI) x.Parent
  Res : (okL okI) x.Res
  Cap : (okL okI) x.Cap
  Sink : (okL okI) x.Sink
theorem qo9 {x : qaa} (h : qhI x) (w : qfR x ≤ 1048576) : qkb x := ⟨qea (h.1) (by simp only [qfR] at w; omega), qea (h.2.1) (by simp only [qfR] at w; omega), qea (h.2.2.1) (by simp only [qfR] at w; omega), qea (h.2.2.2) (by simp only [qfR] at w; omega)⟩
def qgD (a : (List qaa)) : Nat := a.length + (a.map fun x => qfR x).sum
theorem qoj {a : (List qaa)} (h : (rngL qhI) a) (w : qgD a ≤ 1048576) : (okL qkb) a :=
  ⟨by simp only [qgD] at w; omega, fun x hx => qo9 (h.2 x hx) (by have := qd3 (wt := fun x : qaa => qfR x) hx; simp only [qgD] at w; omega)⟩
def qjp (x : ql) : Prop := qh5 x.Library ∧ qiB x.Design ∧ (rngL qhI) x.Wires
def qgT (x : ql) : Nat := qfJ x.Library + qfs x.Design + qgD x.Wires
structure qep (x : ql) : Prop where
  Library : qf9 x.Library
  Design : qhE x.Design
  Wires : (okL qkb) x.Wires
theorem qnX {x : ql} (h : qjp x) (w : qgT x ≤ 1048576) : qep x := ⟨qmW (h.1) (by simp only [qgT] at w; omega), qnh (h.2.1) (by simp only [qgT] at w; omega), qoj (h.2.2) (by simp only [qgT] at w; omega)⟩
theorem qrf {a : qau} (_ : qi6 a ≤ 1048576) : Ev (fun n => qgY n a a) true := by
  unfold qgY
  exact Ev.ff qhB (Ev.ff qcZ (Ev.ff qcZ (Ev.ff qmQ (.done))))

theorem qqN {a : (List qau)} (h : qhM a ≤ 1048576) : Ev (fun n => qhe n a a) true := by
  have hl : a.length ≤ 1048576 := by simp only [qhM] at h; omega
  unfold qhe
  exact Ev.ff (by simp) (Ev.bind (b := .nxt (a.length : Int)) (qhv (eqf := qgY) (fun x hx => qrf (by have := qd3 (wt := fun x : qau => qi6 x) hx; simp only [qhM] at h; omega))
    (fun n => by simp only [qdW, qt (Nat.le_refl _), cond_false])
    (fun n j x hx => by
      have hj := (List.getElem?_eq_some_iff.1 hx).1
      simp only [qdW, qq hj, cond_true, qaU hx, Option.bind_some, qm (show j < 9223372036854775807 by omega)])) .done)

theorem qqP {a : qD} (h : qfQ a ≤ 1048576) : Ev (fun n => qgg n a a) true := by
  unfold qgg
  simp only [qfQ] at h
  exact Ev.ff qhB (Ev.ff qcZ (Ev.bind (qqN (a := a.Pins) (by omega)) (Ev.ff rfl (Ev.bind (qqJ (a := a.Arcs) (by omega)) (Ev.ff rfl (Ev.bind (qfL (a := a.Truth) (by omega)) (Ev.ff rfl (Ev.ff qcZ (Ev.ff qcZ (.done))))))))))

theorem qpY {a : (List qD)} (h : qgE a ≤ 1048576) : Ev (fun n => qgC n a a) true := by
  have hl : a.length ≤ 1048576 := by simp only [qgE] at h; omega
  unfold qgC
  exact Ev.ff (by simp) (Ev.bind (b := .nxt (a.length : Int)) (qhv (eqf := qgg) (fun x hx => qqP (by have := qd3 (wt := fun x : qD => qfQ x) hx; simp only [qgE] at h; omega))
    (fun n => by simp only [qdx, qt (Nat.le_refl _), cond_false])
    (fun n j x hx => by
      have hj := (List.getElem?_eq_some_iff.1 hx).1
      simp only [qdx, qq hj, cond_true, qaU hx, Option.bind_some, qm (show j < 9223372036854775807 by omega)])) .done)

theorem qok {a : qv} (h : qfJ a ≤ 1048576) : Ev (fun n => qfv n a a) true := by
  unfold qfv
  simp only [qfJ] at h
  exact Ev.bind (qpY (a := a.Cells) (by omega)) (Ev.ff rfl (.done))

theorem qnG {a : qn} (h : qcM a ≤ 1048576) : Ev (fun n => qd6 n a a) true := by
  unfold qd6
  simp only [qcM] at h
  exact Ev.ff qhB (Ev.ff qcZ (Ev.bind (qfL (a := a.Nets) (by omega)) (Ev.ff rfl (.done))))

theorem qmK {a : (List qn)} (h : qdf a ≤ 1048576) : Ev (fun n => qez n a a) true := by
  have hl : a.length ≤ 1048576 := by simp only [qdf] at h; omega
  unfold qez
  exact Ev.ff (by simp) (Ev.bind (b := .nxt (a.length : Int)) (qhv (eqf := qd6) (fun x hx => qnG (by have := qd3 (wt := fun x : qn => qcM x) hx; simp only [qdf] at h; omega))
    (fun n => by simp only [qb2, qt (Nat.le_refl _), cond_false])
    (fun n j x hx => by
      have hj := (List.getElem?_eq_some_iff.1 hx).1
      simp only [qb2, qq hj, cond_true, qaU hx, Option.bind_some, qm (show j < 9223372036854775807 by omega)])) .done)

theorem qn3 {a : (List ByteArray)} (h : qfG a ≤ 1048576) : Ev (fun n => qfy n a a) true := by
  have hl : a.length ≤ 1048576 := by simp only [qfG] at h; omega
  unfold qfy
  exact Ev.ff (by simp) (Ev.bind (b := .nxt (a.length : Int)) (qhv (eqf := fun _ x y => some (!(x.toList != y.toList))) (fun x _ => Ev.now (by simp))
    (fun n => by simp only [qcB, qt (Nat.le_refl _), cond_false])
    (fun n j x hx => by
      have hj := (List.getElem?_eq_some_iff.1 hx).1
      simp only [qcB, qq hj, cond_true, qaU hx, Option.bind_some, Bool.not_not, qm (show j < 9223372036854775807 by omega)])) .done)

theorem qqt {a : qak} (_ : qhT a ≤ 1048576) : Ev (fun n => qgf n a a) true := by
  unfold qgf
  exact Ev.ff qhB (Ev.ff qcZ (Ev.ff qcZ (.done)))

theorem qqf {a : (List qak)} (h : qgA a ≤ 1048576) : Ev (fun n => qgL n a a) true := by
  have hl : a.length ≤ 1048576 := by simp only [qgA] at h; omega
  unfold qgL
  exact Ev.ff (by simp) (Ev.bind (b := .nxt (a.length : Int)) (qhv (eqf := qgf) (fun x hx => qqt (by have := qd3 (wt := fun x : qak => qhT x) hx; simp only [qgA] at h; omega))
    (fun n => by simp only [qdv, qt (Nat.le_refl _), cond_false])
    (fun n j x hx => by
      have hj := (List.getElem?_eq_some_iff.1 hx).1
      simp only [qdv, qq hj, cond_true, qaU hx, Option.bind_some, qm (show j < 9223372036854775807 by omega)])) .done)

theorem qoL {a : qj} (h : qfs a ≤ 1048576) : Ev (fun n => qf1 n a a) true := by
  unfold qf1
  simp only [qfs] at h
  exact Ev.bind (qmK (a := a.Instances) (by omega)) (Ev.ff rfl (Ev.bind (qn3 (a := a.Nets) (by omega)) (Ev.ff rfl (Ev.bind (qqf (a := a.Ports) (by omega)) (Ev.ff rfl (.done))))))

theorem qqv {a : qaa} (h : qfR a ≤ 1048576) : Ev (fun n => qgj n a a) true := by
  unfold qgj
  simp only [qfR] at h
  exact Ev.bind (qfL (a := a.Parent) (by omega)) (Ev.ff rfl (Ev.bind (qfL (a := a.Res) (by omega)) (Ev.ff rfl (Ev.bind (qfL (a := a.Cap) (by omega)) (Ev.ff rfl (Ev.bind (qfL (a := a.Sink) (by omega)) (Ev.ff rfl (.done))))))))

theorem qpT {a : (List qaa)} (h : qgD a ≤ 1048576) : Ev (fun n => qgQ n a a) true := by
  have hl : a.length ≤ 1048576 := by simp only [qgD] at h; omega
  unfold qgQ
  exact Ev.ff (by simp) (Ev.bind (b := .nxt (a.length : Int)) (qhv (eqf := qgj) (fun x hx => qqv (by have := qd3 (wt := fun x : qaa => qfR x) hx; simp only [qgD] at h; omega))
    (fun n => by simp only [qdt, qt (Nat.le_refl _), cond_false])
    (fun n j x hx => by
      have hj := (List.getElem?_eq_some_iff.1 hx).1
      simp only [qdt, qq hj, cond_true, qaU hx, Option.bind_some, qm (show j < 9223372036854775807 by omega)])) .done)

theorem qpz {a : ql} (h : qgT a ≤ 1048576) : Ev (fun n => qgN n a a) true := by
  unfold qgN
  simp only [qgT] at h
  exact Ev.bind (qok (a := a.Library) (by omega)) (Ev.ff rfl (Ev.bind (qoL (a := a.Design) (by omega)) (Ev.ff rfl (Ev.bind (qpT (a := a.Wires) (by omega)) (Ev.ff rfl (.done))))))

theorem qfM {a : (List Int)} {left : Int} (h : (rngL rngI) a) (h0 : 0 ≤ left) (h1 : left ≤ 1048576) : Sz (fun n => qbN n a left) (fun r => r = left - (qdD a : Int)) :=
  Sz.less h0 h1 (by omega) (by have := h.1; omega) (fun _ => rfl)

theorem qp8 {a : qG} {left : Int} (h : qgc a) (h0 : 0 ≤ left) (h1 : left ≤ 1048576) : Sz (fun n => qfK n a left) (fun r => r = left - (qe0 a : Int)) := by
  unfold qfK
  obtain ⟨h_0, h_1, h_2⟩ := h
  exact Sz.step (qfM (a := a.Slews) h_0 (by omega) (by omega)) fun r0 p0 q0 => Sz.step (qfM (a := a.Loads) h_1 (by omega) (by omega)) fun r1 p1 q1 => Sz.step (qfM (a := a.Values) h_2 (by omega) (by omega)) fun r2 p2 q2 => Sz.done p2 (by simp only [qe0]; omega)

theorem qmH {a : (List qG)} {left : Int} (h : (rngL qgc) a) (h0 : 0 ≤ left) (h1 : left ≤ 1048576) : Sz (fun n => qfS n a left) (fun r => r = left - (qe9 a : Int)) :=
  Sz.list (Lf := qcr a) (wt := fun x : qG => qe0 x) (el := qfK) h0 h1 h.1 (fun x hx left p q => qp8 (h.2 x hx) p q)
    (fun acc n => by simp only [qcr, qt (Nat.le_refl _), cond_false])
    (fun acc n j x hx => by
      have hj := (List.getElem?_eq_some_iff.1 hx).1
      have hl := h.1
      simp only [qcr, qq hj, cond_true, qaU hx, Option.bind_some, qm (show j < 9223372036854775807 by omega)])
    (fun _ => rfl)

theorem qrb {a : qZ} {left : Int} (h : qiy a) (h0 : 0 ≤ left) (h1 : left ≤ 1048576) : Sz (fun n => qg4 n a left) (fun r => r = left - (qh6 a : Int)) := by
  unfold qg4
  obtain ⟨h_0, h_1, h_2, h_3, h_4, h_5⟩ := h
  exact Sz.step (qmH (a := a.Delay) h_4 (by omega) (by omega)) fun r0 p0 q0 => Sz.step (qmH (a := a.Slew) h_5 (by omega) (by omega)) fun r1 p1 q1 => Sz.done p1 (by simp only [qh6]; omega)

theorem qqw {a : (List qZ)} {left : Int} (h : (rngL qiy) a) (h0 : 0 ≤ left) (h1 : left ≤ 1048576) : Sz (fun n => qh7 n a left) (fun r => r = left - (qhO a : Int)) :=
  Sz.list (Lf := qdi a) (wt := fun x : qZ => qh6 x) (el := qg4) h0 h1 h.1 (fun x hx left p q => qrb (h.2 x hx) p q)
    (fun acc n => by simp only [qdi, qt (Nat.le_refl _), cond_false])
    (fun acc n j x hx => by
      have hj := (List.getElem?_eq_some_iff.1 hx).1
      have hl := h.1
      simp only [qdi, qq hj, cond_true, qaU hx, Option.bind_some, qm (show j < 9223372036854775807 by omega)])
    (fun _ => rfl)

theorem qq7 {a : qau} {left : Int} (h : qiF a) (h0 : 0 ≤ left) (h1 : left ≤ 1048576) : Sz (fun n => qgX n a left) (fun r => r = left - (qi6 a : Int)) := by
  unfold qgX
  obtain ⟨h_0, h_1, h_2, h_3⟩ := h
  exact Sz.strStep h_0 (by omega) (by omega) fun p0 q0 => Sz.done p0 (by simp only [qi6]; omega)

theorem qqu {a : (List qau)} {left : Int} (h : (rngL qiF) a) (h0 : 0 ≤ left) (h1 : left ≤ 1048576) : Sz (fun n => qh4 n a left) (fun r => r = left - (qhM a : Int)) :=
  Sz.list (Lf := qdk a) (wt := fun x : qau => qi6 x) (el := qgX) h0 h1 h.1 (fun x hx left p q => qq7 (h.2 x hx) p q)
    (fun acc n => by simp only [qdk, qt (Nat.le_refl _), cond_false])
    (fun acc n j x hx => by
      have hj := (List.getElem?_eq_some_iff.1 hx).1
      have hl := h.1
      simp only [qdk, qq hj, cond_true, qaU hx, Option.bind_some, qm (show j < 9223372036854775807 by omega)])
    (fun _ => rfl)

theorem qqq {a : qD} {left : Int} (h : qhQ a) (h0 : 0 ≤ left) (h1 : left ≤ 1048576) : Sz (fun n => qgh n a left) (fun r => r = left - (qfQ a : Int)) := by
  unfold qgh
  obtain ⟨h_0, h_1, h_2, h_3, h_4, h_5, h_6⟩ := h
  exact Sz.strStep h_0 (by omega) (by omega) fun p0 q0 => Sz.step (qqu (a := a.Pins) h_2 (by omega) (by omega)) fun r1 p1 q1 => Sz.step (qqw (a := a.Arcs) h_3 (by omega) (by omega)) fun r2 p2 q2 => Sz.step (qfM (a := a.Truth) h_4 (by omega) (by omega)) fun r3 p3 q3 => Sz.done p3 (by simp only [qfQ]; omega)

theorem qp4 {a : (List qD)} {left : Int} (h : (rngL qhQ) a) (h0 : 0 ≤ left) (h1 : left ≤ 1048576) : Sz (fun n => qhz n a left) (fun r => r = left - (qgE a : Int)) :=
  Sz.list (Lf := qcX a) (wt := fun x : qD => qfQ x) (el := qgh) h0 h1 h.1 (fun x hx left p q => qqq (h.2 x hx) p q)
    (fun acc n => by simp only [qcX, qt (Nat.le_refl _), cond_false])
    (fun acc n j x hx => by
      have hj := (List.getElem?_eq_some_iff.1 hx).1
      have hl := h.1
      simp only [qcX, qq hj, cond_true, qaU hx, Option.bind_some, qm (show j < 9223372036854775807 by omega)])
    (fun _ => rfl)

theorem qnO {a : qv} {left : Int} (h : qh5 a) (h0 : 0 ≤ left) (h1 : left ≤ 1048576) : Sz (fun n => qfp n a left) (fun r => r = left - (qfJ a : Int)) := by
  unfold qfp
  have h_0 := h
  exact Sz.step (qp4 (a := a.Cells) h_0 (by omega) (by omega)) fun r0 p0 q0 => Sz.done p0 (by simp only [qfJ]; omega)

theorem qni {a : qn} {left : Int} (h : qeW a) (h0 : 0 ≤ left) (h1 : left ≤ 1048576) : Sz (fun n => qd4 n a left) (fun r => r = left - (qcM a : Int)) := by
  unfold qd4
  obtain ⟨h_0, h_1, h_2⟩ := h
  exact Sz.strStep h_0 (by omega) (by omega) fun p0 q0 => Sz.step (qfM (a := a.Nets) h_2 (by omega) (by omega)) fun r1 p1 q1 => Sz.done p1 (by simp only [qcM]; omega)

theorem qmM {a : (List qn)} {left : Int} (h : (rngL qeW) a) (h0 : 0 ≤ left) (h1 : left ≤ 1048576) : Sz (fun n => qfF n a left) (fun r => r = left - (qdf a : Int)) :=
  Sz.list (Lf := qbv a) (wt := fun x : qn => qcM x) (el := qd4) h0 h1 h.1 (fun x hx left p q => qni (h.2 x hx) p q)
    (fun acc n => by simp only [qbv, qt (Nat.le_refl _), cond_false])
    (fun acc n j x hx => by
      have hj := (List.getElem?_eq_some_iff.1 hx).1
      have hl := h.1
      simp only [qbv, qq hj, cond_true, qaU hx, Option.bind_some, qm (show j < 9223372036854775807 by omega)])
    (fun _ => rfl)

theorem qog {a : (List ByteArray)} {left : Int} (h : (rngL rngS) a) (h0 : 0 ≤ left) (h1 : left ≤ 1048576) : Sz (fun n => qgG n a left) (fun r => r = left - (qfG a : Int)) :=
  Sz.list (Lf := qb4 a) (wt := fun x : ByteArray => x.size) (el := fun _ (x : ByteArray) acc => some (W64 (acc - (x.size : Int)))) h0 h1 h.1 (fun x hx left p q => Sz.str (h.2 x hx) p q)
    (fun acc n => by simp only [qb4, qt (Nat.le_refl _), cond_false])
    (fun acc n j x hx => by
      have hj := (List.getElem?_eq_some_iff.1 hx).1
      have hl := h.1
      simp only [qb4, qq hj, cond_true, qaU hx, Option.bind_some, qm (show j < 9223372036854775807 by omega)])
    (fun _ => rfl)

theorem qqm {a : qak} {left : Int} (h : qhK a) (h0 : 0 ≤ left) (h1 : left ≤ 1048576) : Sz (fun n => qgp n a left) (fun r => r = left - (qhT a : Int)) := by
  unfold qgp
  obtain ⟨h_0, h_1, h_2⟩ := h
  exact Sz.strStep h_0 (by omega) (by omega) fun p0 q0 => Sz.done p0 (by simp only [qhT]; omega)

theorem qpS {a : (List qak)} {left : Int} (h : (rngL qhK) a) (h0 : 0 ≤ left) (h1 : left ≤ 1048576) : Sz (fun n => qhA n a left) (fun r => r = left - (qgA a : Int)) :=
  Sz.list (Lf := qcR a) (wt := fun x : qak => qhT x) (el := qgp) h0 h1 h.1 (fun x hx left p q => qqm (h.2 x hx) p q)
    (fun acc n => by simp only [qcR, qt (Nat.le_refl _), cond_false])
    (fun acc n j x hx => by
      have hj := (List.getElem?_eq_some_iff.1 hx).1
      have hl := h.1
      simp only [qcR, qq hj, cond_true, qaU hx, Option.bind_some, qm (show j < 9223372036854775807 by omega)])
    (fun _ => rfl)

theorem qoH {a : qj} {left : Int} (h : qiB a) (h0 : 0 ≤ left) (h1 : left ≤ 1048576) : Sz (fun n => qfV n a left) (fun r => r = left - (qfs a : Int)) := by
  unfold qfV
  obtain ⟨h_0, h_1, h_2⟩ := h
  exact Sz.step (qmM (a := a.Instances) h_0 (by omega) (by omega)) fun r0 p0 q0 => Sz.step (qog (a := a.Nets) h_1 (by omega) (by omega)) fun r1 p1 q1 => Sz.step (qpS (a := a.Ports) h_2 (by omega) (by omega)) fun r2 p2 q2 => Sz.done p2 (by simp only [qfs]; omega)

theorem qqF {a : qaa} {left : Int} (h : qhI a) (h0 : 0 ≤ left) (h1 : left ≤ 1048576) : Sz (fun n => qgn n a left) (fun r => r = left - (qfR a : Int)) := by
  unfold qgn
  obtain ⟨h_0, h_1, h_2, h_3⟩ := h
  exact Sz.step (qfM (a := a.Parent) h_0 (by omega) (by omega)) fun r0 p0 q0 => Sz.step (qfM (a := a.Res) h_1 (by omega) (by omega)) fun r1 p1 q1 => Sz.step (qfM (a := a.Cap) h_2 (by omega) (by omega)) fun r2 p2 q2 => Sz.step (qfM (a := a.Sink) h_3 (by omega) (by omega)) fun r3 p3 q3 => Sz.done p3 (by simp only [qfR]; omega)

theorem qpI {a : (List qaa)} {left : Int} (h : (rngL qhI) a) (h0 : 0 ≤ left) (h1 : left ≤ 1048576) : Sz (fun n => qhC n a left) (fun r => r = left - (qgD a : Int)) :=
  Sz.list (Lf := qcW a) (wt := fun x : qaa => qfR x) (el := qgn) h0 h1 h.1 (fun x hx left p q => qqF (h.2 x hx) p q)
    (fun acc n => by simp only [qcW, qt (Nat.le_refl _), cond_false])
    (fun acc n j x hx => by
      have hj := (List.getElem?_eq_some_iff.1 hx).1
      have hl := h.1
      simp only [qcW, qq hj, cond_true, qaU hx, Option.bind_some, qm (show j < 9223372036854775807 by omega)])
    (fun _ => rfl)

theorem qqj {a : ql} {left : Int} (h : qjp a) (h0 : 0 ≤ left) (h1 : left ≤ 1048576) : Sz (fun n => qgy n a left) (fun r => r = left - (qgT a : Int)) := by
  unfold qgy
  obtain ⟨h_0, h_1, h_2⟩ := h
  exact Sz.step (qnO (a := a.Library) h_0 (by omega) (by omega)) fun r0 p0 q0 => Sz.step (qoH (a := a.Design) h_1 (by omega) (by omega)) fun r1 p1 q1 => Sz.step (qpI (a := a.Wires) h_2 (by omega) (by omega)) fun r2 p2 q2 => Sz.done p2 (by simp only [qgT]; omega)

theorem qfO {a : (List Int)} (h : qdD a ≤ 1048576) : Ev (fun n => qbp n a) a := by
  have hl : a.length ≤ 1048576 := by simp only [qdD] at h; omega
  unfold qbp
  exact Ev.bindN (qg9 (by omega)) (Ev.bind (b := (a, (a.length : Int))) (qhw (cp := fun _ x => some x) (fun _ _ => .done)
    (fun acc n => by simp only [qc7, qt (Nat.le_refl _), cond_false])
    (fun acc n j x y hx hy => by
      have hj := (List.getElem?_eq_some_iff.1 hx).1
      simp only [qc7, qq hj, cond_true, qaU hx, qaU hy, Option.bind_some, qm (show j < 9223372036854775807 by omega)])) .done)

theorem qpL {a : qG} (h : qe0 a ≤ 1048576) : Ev (fun n => qfH n a) a := by
  unfold qfH
  simp only [qe0] at h
  exact Ev.bind (qfO (a := a.Slews) (by omega)) (Ev.bind (qfO (a := a.Loads) (by omega)) (Ev.bind (qfO (a := a.Values) (by omega)) (.done)))

theorem qmI {a : (List qG)} (h : qe9 a ≤ 1048576) : Ev (fun n => qfd n a) a := by
  have hl : a.length ≤ 1048576 := by simp only [qe9] at h; omega
  unfold qfd
  exact Ev.bindN (qg9 (by omega)) (Ev.bind (b := (a, (a.length : Int))) (qhw (cp := qfH) (fun x hx => qpL (by have := qd3 (wt := fun x : qG => qe0 x) hx; simp only [qe9] at h; omega))
    (fun acc n => by simp only [qc6, qt (Nat.le_refl _), cond_false])
    (fun acc n j x y hx hy => by
      have hj := (List.getElem?_eq_some_iff.1 hx).1
      simp only [qc6, qq hj, cond_true, qaU hx, qaU hy, Option.bind_some, qm (show j < 9223372036854775807 by omega)])) .done)

theorem qrd {a : qZ} (h : qh6 a ≤ 1048576) : Ev (fun n => qg1 n a) a := by
  unfold qg1
  simp only [qh6] at h
  exact Ev.bind (qmI (a := a.Delay) (by omega)) (Ev.bind (qmI (a := a.Slew) (by omega)) (.done))

theorem qqH {a : (List qZ)} (h : qhO a ≤ 1048576) : Ev (fun n => qhk n a) a := by
  have hl : a.length ≤ 1048576 := by simp only [qhO] at h; omega
  unfold qhk
  exact Ev.bindN (qg9 (by omega)) (Ev.bind (b := (a, (a.length : Int))) (qhw (cp := qg1) (fun x hx => qrd (by have := qd3 (wt := fun x : qZ => qh6 x) hx; simp only [qhO] at h; omega))
    (fun acc n => by simp only [qdO, qt (Nat.le_refl _), cond_false])
    (fun acc n j x y hx hy => by
      have hj := (List.getElem?_eq_some_iff.1 hx).1
      simp only [qdO, qq hj, cond_true, qaU hx, qaU hy, Option.bind_some, qm (show j < 9223372036854775807 by omega)])) .done)

theorem qq3 {a : qau} (_ : qi6 a ≤ 1048576) : Ev (fun n => qg8 n a) a := by
  unfold qg8
  exact .done

theorem qqB {a : (List qau)} (h : qhM a ≤ 1048576) : Ev (fun n => qho n a) a := by
  have hl : a.length ≤ 1048576 := by simp only [qhM] at h; omega
  unfold qho
  exact Ev.bindN (qg9 (by omega)) (Ev.bind (b := (a, (a.length : Int))) (qhw (cp := qg8) (fun x hx => qq3 (by have := qd3 (wt := fun x : qau => qi6 x) hx; simp only [qhM] at h; omega))
    (fun acc n => by simp only [qdM, qt (Nat.le_refl _), cond_false])
    (fun acc n j x y hx hy => by
      have hj := (List.getElem?_eq_some_iff.1 hx).1
      simp only [qdM, qq hj, cond_true, qaU hx, qaU hy, Option.bind_some, qm (show j < 9223372036854775807 by omega)])) .done)

theorem qqK {a : qD} (h : qfQ a ≤ 1048576) : Ev (fun n => qge n a) a := by
  unfold qge
  simp only [qfQ] at h
  exact Ev.bind (qqB (a := a.Pins) (by omega)) (Ev.bind (qqH (a := a.Arcs) (by omega)) (Ev.bind (qfO (a := a.Truth) (by omega)) (.done)))

theorem qpx {a : (List qD)} (h : qgE a ≤ 1048576) : Ev (fun n => qgS n a) a := by
  have hl : a.length ≤ 1048576 := by simp only [qgE] at h; omega
  unfold qgS
  exact Ev.bindN (qg9 (by omega)) (Ev.bind (b := (a, (a.length : Int))) (qhw (cp := qge) (fun x hx => qqK (by have := qd3 (wt := fun x : qD => qfQ x) hx; simp only [qgE] at h; omega))
    (fun acc n => by simp only [qdz, qt (Nat.le_refl _), cond_false])
    (fun acc n j x y hx hy => by
      have hj := (List.getElem?_eq_some_iff.1 hx).1
      simp only [qdz, qq hj, cond_true, qaU hx, qaU hy, Option.bind_some, qm (show j < 9223372036854775807 by omega)])) .done)

theorem qon {a : qv} (h : qfJ a ≤ 1048576) : Ev (fun n => qfq n a) a := by
  unfold qfq
  simp only [qfJ] at h
  exact Ev.bind (qpx (a := a.Cells) (by omega)) (.done)

theorem qm8 {a : qn} (h : qcM a ≤ 1048576) : Ev (fun n => qd7 n a) a := by
  unfold qd7
  simp only [qcM] at h
  exact Ev.bind (qfO (a := a.Nets) (by omega)) (.done)

theorem qmO {a : (List qn)} (h : qdf a ≤ 1048576) : Ev (fun n => qeA n a) a := by
  have hl : a.length ≤ 1048576 := by simp only [qdf] at h; omega
  unfold qeA
  exact Ev.bindN (qg9 (by omega)) (Ev.bind (b := (a, (a.length : Int))) (qhw (cp := qd7) (fun x hx => qm8 (by have := qd3 (wt := fun x : qn => qcM x) hx; simp only [qdf] at h; omega))
    (fun acc n => by simp only [qb1, qt (Nat.le_refl _), cond_false])
    (fun acc n j x y hx hy => by
      have hj := (List.getElem?_eq_some_iff.1 hx).1
      simp only [qb1, qq hj, cond_true, qaU hx, qaU hy, Option.bind_some, qm (show j < 9223372036854775807 by omega)])) .done)

theorem qn4 {a : (List ByteArray)} (h : qfG a ≤ 1048576) : Ev (fun n => qfn n a) a := by
  have hl : a.length ≤ 1048576 := by simp only [qfG] at h; omega
  unfold qfn
  exact Ev.bindN (qg9 (by omega)) (Ev.bind (b := (a, (a.length : Int))) (qhw (cp := fun _ x => some x) (fun _ _ => .done)
    (fun acc n => by simp only [qcG, qt (Nat.le_refl _), cond_false])
    (fun acc n j x y hx hy => by
      have hj := (List.getElem?_eq_some_iff.1 hx).1
      simp only [qcG, qq hj, cond_true, qaU hx, qaU hy, Option.bind_some, qm (show j < 9223372036854775807 by omega)])) .done)

theorem qqS {a : qak} (_ : qhT a ≤ 1048576) : Ev (fun n => qgl n a) a := by
  unfold qgl
  exact .done

theorem qpu {a : (List qak)} (h : qgA a ≤ 1048576) : Ev (fun n => qgM n a) a := by
  have hl : a.length ≤ 1048576 := by simp only [qgA] at h; omega
  unfold qgM
  exact Ev.bindN (qg9 (by omega)) (Ev.bind (b := (a, (a.length : Int))) (qhw (cp := qgl) (fun x hx => qqS (by have := qd3 (wt := fun x : qak => qhT x) hx; simp only [qgA] at h; omega))
    (fun acc n => by simp only [qdy, qt (Nat.le_refl _), cond_false])
    (fun acc n j x y hx hy => by
      have hj := (List.getElem?_eq_some_iff.1 hx).1
      simp only [qdy, qq hj, cond_true, qaU hx, qaU hy, Option.bind_some, qm (show j < 9223372036854775807 by omega)])) .done)

theorem qpd {a : qj} (h : qfs a ≤ 1048576) : Ev (fun n => qf0 n a) a := by
  unfold qf0
  simp only [qfs] at h
  exact Ev.bind (qmO (a := a.Instances) (by omega)) (Ev.bind (qn4 (a := a.Nets) (by omega)) (Ev.bind (qpu (a := a.Ports) (by omega)) (.done)))

theorem qqU {a : qaa} (h : qfR a ≤ 1048576) : Ev (fun n => qgm n a) a := by
  unfold qgm
  simp only [qfR] at h
  exact Ev.bind (qfO (a := a.Parent) (by omega)) (Ev.bind (qfO (a := a.Res) (by omega)) (Ev.bind (qfO (a := a.Cap) (by omega)) (Ev.bind (qfO (a := a.Sink) (by omega)) (.done))))

theorem qqg {a : (List qaa)} (h : qgD a ≤ 1048576) : Ev (fun n => qgO n a) a := by
  have hl : a.length ≤ 1048576 := by simp only [qgD] at h; omega
  unfold qgO
  exact Ev.bindN (qg9 (by omega)) (Ev.bind (b := (a, (a.length : Int))) (qhw (cp := qgm) (fun x hx => qqU (by have := qd3 (wt := fun x : qaa => qfR x) hx; simp only [qgD] at h; omega))
    (fun acc n => by simp only [qdu, qt (Nat.le_refl _), cond_false])
    (fun acc n j x y hx hy => by
      have hj := (List.getElem?_eq_some_iff.1 hx).1
      simp only [qdu, qq hj, cond_true, qaU hx, qaU hy, Option.bind_some, qm (show j < 9223372036854775807 by omega)])) .done)

theorem qlo {a : ql} (h : qgT a ≤ 1048576) : Ev (fun n => qeT n a) a := by
  unfold qeT
  simp only [qgT] at h
  exact Ev.bind (qon (a := a.Library) (by omega)) (Ev.bind (qpd (a := a.Design) (by omega)) (Ev.bind (qqg (a := a.Wires) (by omega)) (.done)))

end Go.Fw


namespace Go.Fw
open Go
set_option maxRecDepth 100000


theorem qeI {n : Nat} {x lo hi : Int} : qaq n x lo hi = some (inI x lo hi) := by
  simp only [qaq, qjm, qj2]; rfl
theorem qd5 {n : Nat} {x lo hi : Int} : qba n x lo hi = some (inI x lo hi) := by
  simp only [qba, qjm, qj2]; rfl

/-! ### Names -/

/-- The byte at a place, as a number. -/
def bt (s : ByteArray) (j : Nat) : Nat := (s.data.toList.getD j 0).toNat
theorem qqa {s : ByteArray} {j : Nat} (h : j < s.size) : atS s (j : Int) = some (bt s j : Int) := by
  have h' : j < s.data.size := h
  have hl : j < s.data.toList.length := by simpa using h'
  unfold atS
  rw [if_pos (by omega), Int.toNat_natCast]
  have : s[j]? = some (s.data.toList.getD j 0) := by
    rw [getElem?_pos s j h, List.getD_eq_getElem?_getD, List.getElem?_eq_getElem hl]
    rfl
  rw [this]
  rfl

def letB (b : Nat) : Bool := decide (97 ≤ b) && decide (b ≤ 122)
def digB (b : Nat) : Bool := decide (48 ≤ b) && decide (b ≤ 57)
def chB (s : ByteArray) (j : Nat) : Bool := letB (bt s j) || digB (bt s j) && decide (0 < j)
def nameB (s : ByteArray) : Bool := (decide (1 ≤ s.size) && decide (s.size ≤ 8)) && allN (chB s) s.size

theorem qjT {s : ByteArray} (h : okS s) : Ev (fun n => qeZ n s) (nameB s) := by
  unfold okS at h
  have hL : Ev (fun n => qce s n 0) (bif allN (chB s) s.size then .nxt (s.size : Int) else .ret false) := by
    refine qe1 ?_ (fun j hj X hX => ?_)
    · exact Ev.succ (by simp only [qce, qt (Nat.le_refl _), cond_false]; exact .done)
    · refine Ev.succ ?_
      simp only [qce, qq hj, cond_true, qqa hj, Option.bind_some, qjm, qj2, qm (show j < 9223372036854775807 by omega)]
      have e1 : (decide ((bt s j : Int) ≥ 97) && decide ((bt s j : Int) ≤ 122)) = letB (bt s j) := by unfold letB; rw [Bool.eq_iff_iff]; simp; omega
      have e2 : (decide ((bt s j : Int) ≥ 48) && decide ((bt s j : Int) ≤ 57)) = digB (bt s j) := by unfold digB; rw [Bool.eq_iff_iff]; simp; omega
      have e3 : decide ((j : Int) > 0) = decide (0 < j) := by rw [Bool.eq_iff_iff]; simp
      rw [e1, e2, e3]
      unfold chB
      cases letB (bt s j) <;> cases digB (bt s j) <;> cases decide (0 < j) <;> first | exact hX | exact .done
  unfold qeZ
  refine Ev.cast (r := bif allN (chB s) s.size then (decide (1 ≤ s.size) && decide (s.size ≤ 8)) else false) (Ev.bindB hL (fun _ => ?_) (fun _ => .done)) ?_
  · simp only [qjm, qj2]
    exact Ev.now (by congr 1; rw [Bool.eq_iff_iff]; simp; omega)
  · unfold nameB
    cases allN (chB s) s.size <;> simp

def cutset : List UInt8 := [97, 98, 99, 100, 101, 102, 103, 104, 105, 106, 107, 108, 109, 110, 111, 112, 113, 114, 115, 116, 117, 118, 119, 120, 121, 122, 48, 49, 50, 51, 52, 53, 54, 55, 56, 57]
theorem qlq (b : UInt8) : cutset.contains b = (letB b.toNat || digB b.toNat) := by
  have h0 : (List.range 256).all (fun m => cutset.contains (UInt8.ofNat m) == (letB (UInt8.ofNat m).toNat || digB (UInt8.ofNat m).toNat)) = true := by kernel_rfl
  have h := List.all_eq_true.1 h0 b.toNat (List.mem_range.2 b.toNat_lt)
  rw [beq_iff_eq] at h
  simpa using h
def letters : List UInt8 := [97, 98, 99, 100, 101, 102, 103, 104, 105, 106, 107, 108, 109, 110, 111, 112, 113, 114, 115, 116, 117, 118, 119, 120, 121, 122]
theorem qn1 (m : Nat) (hm : m < 256) : decide ((Lib.indexByte letters m.toUInt8) ≥ 0) = letB m := by
  have h0 : (List.range 256).all (fun m => decide ((Lib.indexByte letters m.toUInt8) ≥ 0) == letB m) = true := by kernel_rfl
  have h := List.all_eq_true.1 h0 m (List.mem_range.2 hm)
  rwa [beq_iff_eq] at h

theorem ql2 {α : Type} {p : α → Bool} {l : List α} : l.dropWhile p = [] ↔ ∀ x, x ∈ l → p x = true := by
  induction l with
  | nil => simp
  | cons y l ih =>
    rw [List.dropWhile_cons]
    by_cases h : p y = true
    · rw [if_pos h, ih]; simp [h]
    · rw [if_neg h]; simp [h]

theorem ql9 {α : Type} {p : α → Bool} {l : List α} (h : ∀ x, x ∈ l.dropWhile p → p x = true) : ∀ x, x ∈ l → p x = true := by
  induction l with
  | nil => simp
  | cons y l ih =>
    rw [List.dropWhile_cons] at h
    by_cases hy : p y = true
    · rw [if_pos hy] at h
      intro x hx
      rcases List.mem_cons.1 hx with rfl | hx
      · exact hy
      · exact ih h x hx
    · rw [if_neg hy] at h
      exact h

theorem qpV {l cs : List UInt8} : Lib.trimS l cs = [] ↔ ∀ x, x ∈ l → cs.contains x = true := by
  unfold Lib.trimS Lib.trimRightS Lib.trimLeftS
  rw [ql2]
  constructor
  · intro h x hx
    exact ql9 (p := (cs.contains ·)) (l := l.reverse) (fun y hy => h y (List.mem_reverse.2 hy)) x (List.mem_reverse.2 hx)
  · intro h x hx
    exact h x (List.mem_reverse.1 ((List.dropWhile_suffix _).subset (List.mem_reverse.1 hx)))

theorem qfY {a b : ByteArray} : (a.toList == b.toList) = decide (a = b) := by
  rw [Bool.eq_iff_iff, beq_iff_eq, decide_eq_true_iff]
  constructor
  · intro h
    exact ByteArray.ext (by have := congrArg List.toArray h; simpa [ByteArray.toList_eq] using this)
  · rintro rfl; rfl
end Go.Fw


namespace Go.Fw
open Go
set_option maxRecDepth 100000

theorem qqW {s : ByteArray} {j : Nat} (h : j < s.data.toList.length) : bt s j = (s.data.toList[j]).toNat := by
  unfold bt; rw [List.getD_eq_getElem?_getD, List.getElem?_eq_getElem h]; rfl
theorem qrj {s : ByteArray} {j : Nat} : bt s j < 256 := UInt8.toNat_lt _

theorem qmD {n : Nat} {s : ByteArray} (h : okS s) : qgr n s = some (nameB s) := by
  unfold okS at h
  have hl : s.data.toList.length = s.size := by simp
  simp only [qgr, qd5, Option.bind_some]
  cases hI : inI (s.size : Int) 1 8 with
  | false =>
    have hs : (decide (1 ≤ s.size) && decide (s.size ≤ 8)) = false := by rw [qoI] at hI; rw [Bool.and_eq_false_iff, decide_eq_false_iff_not, decide_eq_false_iff_not]; omega
    simp [nameB, hs]
  | true =>
    have hs : 1 ≤ s.size ∧ s.size ≤ 8 := by rw [qc1] at hI; omega
    have hT : qgv n s (⟨#[97, 98, 99, 100, 101, 102, 103, 104, 105, 106, 107, 108, 109, 110, 111, 112, 113, 114, 115, 116, 117, 118, 119, 120, 121, 122, 48, 49, 50, 51, 52, 53, 54, 55, 56, 57]⟩ : ByteArray) = some ⟨(Lib.trimS s.data.toList cutset).toArray⟩ := by
      unfold qgv
      rw [if_pos ⟨by omega, by decide, by decide⟩]
      rfl
    rw [hT]
    simp only [cond_true, Option.bind_some]
    have hE : (((⟨(Lib.trimS s.data.toList cutset).toArray⟩ : ByteArray).toList == (⟨#[]⟩ : ByteArray).toList)) = allN (fun j => letB (bt s j) || digB (bt s j)) s.size := by
      rw [qfY, Bool.eq_iff_iff, decide_eq_true_iff, qa8]
      have : ((⟨(Lib.trimS s.data.toList cutset).toArray⟩ : ByteArray) = ⟨#[]⟩) ↔ Lib.trimS s.data.toList cutset = [] := by
        constructor
        · intro he
          have := congrArg (fun x : ByteArray => x.data.toList) he
          simpa using this
        · intro he; rw [he]
      rw [this, qpV]
      constructor
      · intro hx j hj
        have hj' : j < s.data.toList.length := by omega
        have := hx _ (List.getElem_mem hj')
        rw [qlq, ← qqW hj'] at this
        exact this
      · intro hx x hm
        obtain ⟨j, hj, rfl⟩ := List.getElem_of_mem hm
        have := hx j (by omega)
        rw [qlq, ← qqW hj]
        exact this
    rw [hE]
    have h0 : atS s 0 = some (bt s 0 : Int) := qqa (j := 0) (by omega)
    have hI2 : decide (Lib.indexByte letters (bt s 0 : Int).toNat.toUInt8 ≥ 0) = letB (bt s 0) := by
      rw [Int.toNat_natCast]; exact qn1 _ qrj
    have hF : ∀ b : Bool, (bif b then (atS s 0).bind fun y1 => (qfg n (⟨#[97, 98, 99, 100, 101, 102, 103, 104, 105, 106, 107, 108, 109, 110, 111, 112, 113, 114, 115, 116, 117, 118, 119, 120, 121, 122]⟩ : ByteArray) (⟨y1⟩ : IntK .u8)).bind fun r3 => some (decide (r3 ≥ 0)) else some false) = some (b && letB (bt s 0)) := by
      intro b
      cases b with
      | false => rfl
      | true =>
        rw [h0]
        simp only [cond_true, Option.bind_some, qfg, Bool.true_and]
        exact congrArg some hI2
    rw [hF]
    congr 1
    have hs' : (decide (1 ≤ s.size) && decide (s.size ≤ 8)) = true := by simp [hs]
    unfold nameB
    rw [hs', Bool.true_and, Bool.eq_iff_iff, Bool.and_eq_true, qa8, qa8]
    simp only [chB, Bool.or_eq_true, Bool.and_eq_true, decide_eq_true_eq]
    constructor
    · rintro ⟨h1, h2⟩ j hj
      rcases Nat.eq_zero_or_pos j with rfl | hp
      · exact .inl h2
      · exact (h1 j hj).imp id (fun h => ⟨h, hp⟩)
    · intro h1
      refine ⟨fun j hj => (h1 j hj).imp id (fun h => h.1), ?_⟩
      rcases h1 0 (by omega) with h2 | h2
      · exact h2
      · omega

/-! ### Lists of names -/

def strAt (xs : List ByteArray) (j : Nat) : ByteArray := xs.getD j ByteArray.empty
theorem qke {xs : List ByteArray} {j : Nat} (h : j < xs.length) : strAt xs j = xs[j] := by simp [strAt, h]
theorem qlh {xs : List ByteArray} {j : Nat} (h : j < xs.length) : idx xs (j : Int) = some (strAt xs j) := by rw [qf8 h, qke h]
def neB (xs : List ByteArray) (j i : Nat) : Bool := !decide (strAt xs i = strAt xs j)
def namesB (xs : List ByteArray) : Bool := allN (fun j => nameB (strAt xs j) && allN (neB xs j) j) xs.length

theorem qi5 {xs : List ByteArray} (h : okL okS xs) : Ev (fun n => qer n xs) (namesB xs) := by
  have hl := h.len
  have hL2 : ∀ j, j < xs.length → Ev (fun n => qco xs (j : Int) n 0) (bif allN (neB xs j) j then .nxt (j : Int) else .ret false) := by
    intro j hj
    refine qe1 ?_ (fun i hi X hX => Ev.succ ?_)
    · exact Ev.succ (by simp only [qco, qt (Nat.le_refl _), cond_false]; exact .done)
    · simp only [qco, qq hi, cond_true, qlh (show i < xs.length by omega), qlh hj, Option.bind_some, qfY, qm (show i < 9223372036854775807 by omega)]
      unfold neB
      cases decide (strAt xs i = strAt xs j)
      · exact hX
      · exact .done
  have hL1 : Ev (fun n => qcp xs n 0) (bif namesB xs then .nxt (xs.length : Int) else .ret false) := by
    refine qe1 ?_ (fun j hj X hX => Ev.succ ?_)
    · exact Ev.succ (by simp only [qcp, qt (Nat.le_refl _), cond_false]; exact .done)
    · simp only [qcp, qq hj, cond_true, qlh hj, Option.bind_some, qm (show j < 9223372036854775807 by omega)]
      refine Ev.bind (qjT (by rw [qke hj]; exact h.at hj)) ?_
      cases nameB (strAt xs j)
      · exact .done
      · refine Ev.ff rfl (Ev.bind (hL2 j hj) ?_)
        cases allN (neB xs j) j
        · exact .done
        · exact hX
  unfold qer
  refine Ev.bind hL1 ?_
  cases namesB xs <;> exact .done

theorem qm7 {xs : List ByteArray} {v : ByteArray} (hl : xs.length ≤ 1048576) : Ev (fun n => qdC n xs v) (ixL (fun x => decide (v = x)) xs) :=
  qe3 (fin := (xs.length : Int)) (Lf := qa7 xs v) (pf := fun _ x => some (decide (v = x))) (fun _ _ => .done)
    (fun n => by simp only [qa7, qt (Nat.le_refl _), cond_false])
    (fun n j x hx => by
      have hj := (List.getElem?_eq_some_iff.1 hx).1
      simp only [qa7, qq hj, cond_true, qaU hx, Option.bind_some, qfY, qm (show j < 9223372036854775807 by omega)])
    (fun n => by unfold qdC; congr 1; funext o; cases o <;> rfl)

theorem qlT {xs : List ByteArray} {v : ByteArray} (hl : xs.length ≤ 1048576) : Ev (fun n => qcF n xs v) (xs.any fun x => decide (v = x)) := by
  unfold qcF
  exact Ev.bind (qm7 hl) (Ev.now (by rw [qi8]))

theorem qhp {xs : List ByteArray} (h : okL okS xs) : Ev (fun n => qc8 n xs) (namesB xs) := by
  have hl := h.len
  have hL1 : Ev (fun n => qck xs n 0) (bif namesB xs then .nxt (xs.length : Int) else .ret false) := by
    refine qe1 ?_ (fun j hj X hX => Ev.succ ?_)
    · exact Ev.succ (by simp only [qck, qt (Nat.le_refl _), cond_false]; exact .done)
    · have hs : subS xs 0 (j : Int) = some (xs.take j) := by
        unfold subS
        rw [if_pos ⟨by omega, by omega, by omega⟩]
        simp
      simp only [qck, qq hj, cond_true, qlh hj, Option.bind_some, hs, qmD (show okS (strAt xs j) by rw [qke hj]; exact h.at hj), qm (show j < 9223372036854775807 by omega)]
      cases nameB (strAt xs j)
      · exact .done
      · refine Ev.ff rfl (Ev.bind (qlT (by simp; omega)) ?_)
        have : ((xs.take j).any fun x => decide (strAt xs j = x)) = !allN (neB xs j) j := by
          rw [qng (d := ByteArray.empty)]
          congr 1
          rw [List.length_take, Nat.min_eq_left (by omega)]
          refine qgb (fun i hi => ?_)
          unfold neB strAt
          congr 1
          have : (xs.take j).getD i ByteArray.empty = xs.getD i ByteArray.empty := by simp [List.getD_eq_getElem?_getD, hi]
          rw [this]
          exact decide_eq_decide.2 eq_comm
        rw [this]
        cases allN (neB xs j) j
        · exact .done
        · exact hX
  unfold qc8
  refine Ev.bind hL1 ?_
  cases namesB xs <;> exact .done
end Go.Fw


namespace Go.Fw
open Go
set_option maxRecDepth 100000

theorem ql8 {n : Nat} {x lo hi : Int} : qeK n x lo hi = some (!inI x lo hi) := by simp only [qeK, qd5, Option.bind_some]

theorem qfP {xs : List Int} {lo hi : Int} (hl : xs.length ≤ 1048576) : Ev (fun n => qb6 n xs lo hi) (xs.all fun x => inI x lo hi) := by
  have h1 : Ev (fun n => qaB n xs lo hi) (ixL (fun x => !inI x lo hi) xs) :=
    qe3 (fin := (xs.length : Int)) (Lf := qO xs lo hi) (pf := fun _ x => some (!inI x lo hi)) (fun _ _ => .done)
      (fun n => by simp only [qO, qt (Nat.le_refl _), cond_false])
      (fun n j x hx => by
        have hj := (List.getElem?_eq_some_iff.1 hx).1
        simp only [qO, qq hj, cond_true, qaU hx, Option.bind_some, ql8, qm (show j < 9223372036854775807 by omega)])
      (fun n => by unfold qaB; congr 1; funext o; cases o <;> rfl)
  unfold qb6 qaQ
  refine Ev.bind (Ev.bind h1 (Ev.now rfl)) (Ev.now ?_)
  rw [qi8, qlj]

def stepB (xs : List Int) (j : Nat) : Bool := decide (j = 0) || decide (at0 xs (j - 1) < at0 xs j)
def incB (xs : List Int) : Bool := allN (stepB xs) xs.length

theorem qle {xs : List Int} (hl : xs.length ≤ 1048576) : Ev (fun n => qeh n xs) (incB xs) := by
  have hL : Ev (fun n => qaR xs n 1) (bif incB xs then .nxt (max 1 xs.length : Int) else .ret false) := by
    by_cases h0 : xs.length = 0
    · have hb : incB xs = true := by unfold incB; rw [h0]; rfl
      rw [hb]
      refine Ev.succ ?_
      have : decide ((1 : Int) < (xs.length : Int)) = false := by rw [h0]; decide
      simp only [qaR, this, cond_false]
      exact Ev.now (by rw [h0]; rfl)
    · have := qot (Lf := qaR xs) (len := xs.length) (i0 := 1) (f := stepB xs) (bad := false) (fin := .nxt (max 1 xs.length : Int)) (by omega)
        (Ev.succ (by
          simp only [qaR, qt (Nat.le_refl _), cond_false]
          exact Ev.now (by congr 2; omega)))
        (fun j h1 hj X hX => Ev.succ (by
          simp only [qaR, qq hj, cond_true, qm (show j < 9223372036854775807 by omega), show (j : Int) - 1 = ((j - 1 : Nat) : Int) by omega, qdQ (show -9223372036854775808 ≤ ((j - 1 : Nat) : Int) by omega) (by omega), qdp (show j - 1 < xs.length by omega), qdp hj, Option.bind_some]
          unfold stepB
          by_cases hc : at0 xs (j - 1) < at0 xs j
          · have e1 : decide (at0 xs (j - 1) ≥ at0 xs j) = false := by simp; omega
            rw [e1]; simp only [hc, decide_true, Bool.or_true, cond_true, cond_false]; exact hX
          · have e1 : decide (at0 xs (j - 1) ≥ at0 xs j) = true := by simp; omega
            have e2 : decide (j = 0) = false := by simp; omega
            rw [e1, e2]; simp only [hc, decide_false, Bool.or_self, cond_true, cond_false]; exact .done))
      have e : allN (fun j => stepB xs (1 + j)) (xs.length - 1) = incB xs := by
        unfold incB
        rw [Bool.eq_iff_iff, qa8, qa8]
        constructor
        · intro h j hj
          cases j with
          | zero => rfl
          | succ j => have := h j (by omega); rwa [Nat.add_comm] at this
        · intro h j hj
          exact h (1 + j) (by omega)
      rw [e] at this
      exact this
  unfold qeh
  refine Ev.bind hL ?_
  cases incB xs <;> exact .done

def lenB {α : Type} (xs : List α) (lo hi : Nat) : Bool := decide (lo ≤ xs.length) && decide (xs.length ≤ hi)
theorem qmU {α : Type} {xs : List α} {lo hi : Nat} : inI (xs.length : Int) (lo : Int) (hi : Int) = lenB xs lo hi := by
  unfold inI lenB; rw [Bool.eq_iff_iff]; simp
def axisB (xs : List Int) : Bool := lenB xs 1 4 && ((xs.all fun x => inI x 0 100000) && incB xs)

theorem qmo {xs : List Int} (hl : xs.length ≤ 1048576) : Ev (fun n => qgo n xs) (axisB xs) := by
  simp only [qgo, qa6, Option.bind_some, qd5, show inI (xs.length : Int) 1 4 = lenB xs 1 4 from qmU (lo := 1) (hi := 4)]
  unfold axisB
  cases lenB xs 1 4
  · exact .done
  · refine Ev.tt rfl (Ev.bind (qfP hl) ?_)
    cases (xs.all fun x => inI x 0 100000)
    · exact .done
    · exact Ev.tt rfl (Ev.bind (qle hl) .done)

theorem qlH {xs : List Int} (hl : xs.length ≤ 1048576) : Ev (fun n => qfI n xs) (axisB xs) := by
  have hL : Ev (fun n => qcd xs n 0) (bif allN (fun j => inI (at0 xs j) 0 100000 && stepB xs j) xs.length then .nxt (xs.length : Int) else .ret false) := by
    refine qe1 ?_ (fun j hj X hX => Ev.succ ?_)
    · exact Ev.succ (by simp only [qcd, qt (Nat.le_refl _), cond_false]; exact .done)
    · simp only [qcd, qq hj, cond_true, qdp hj, Option.bind_some, qeI, qm (show j < 9223372036854775807 by omega)]
      cases inI (at0 xs j) 0 100000
      · exact .done
      · simp only [Bool.not_true, cond_false, Bool.true_and]
        unfold stepB
        by_cases h0 : j = 0
        · subst h0
          exact Ev.ff (by decide) hX
        · simp only [show (j : Int) - 1 = ((j - 1 : Nat) : Int) by omega, qdQ (show -9223372036854775808 ≤ ((j - 1 : Nat) : Int) by omega) (by omega), qdp (show j - 1 < xs.length by omega), Option.bind_some]
          have e2 : decide (j = 0) = false := by simp; omega
          have e3 : decide ((j : Int) > 0) = true := by simp; omega
          rw [e2, e3]
          simp only [cond_true, Bool.false_or]
          by_cases hc : at0 xs (j - 1) < at0 xs j
          · have e1 : decide (at0 xs (j - 1) ≥ at0 xs j) = false := by simp; omega
            rw [e1]; simp only [hc, decide_true, cond_true, cond_false]; exact hX
          · have e1 : decide (at0 xs (j - 1) ≥ at0 xs j) = true := by simp; omega
            rw [e1]; simp only [hc, decide_false, cond_true, cond_false]; exact .done
  have e : axisB xs = (allN (fun j => inI (at0 xs j) 0 100000 && stepB xs j) xs.length && lenB xs 1 4) := by
    unfold axisB incB
    rw [qjf, qhf (d := 0), Bool.and_comm]
    rfl
  rw [e]
  unfold qfI
  refine Ev.bind hL ?_
  cases allN (fun j => inI (at0 xs j) 0 100000 && stepB xs j) xs.length
  · exact .done
  · simp only [cond_true, qjm, qj2, Bool.true_and]
    exact Ev.now (by congr 1; unfold lenB; rw [Bool.eq_iff_iff]; simp; omega)

def tableB (t : qG) : Bool := axisB t.Slews && (axisB t.Loads && (decide (t.Values.length = t.Slews.length * t.Loads.length) && (t.Values.all fun x => inI x (-1000000) 1000000)))

theorem qoz {a b : Nat} (ha : a ≤ 1048576) (hb : b ≤ 1048576) : W64 ((a : Int) * (b : Int)) = ((a * b : Nat) : Int) := by
  have h : a * b ≤ 1048576 * 1048576 := Nat.mul_le_mul ha hb
  have e : (a : Int) * (b : Int) = ((a * b : Nat) : Int) := by simp
  rw [e]
  exact qdQ (by omega) (by omega)

theorem qn8 {t : qG} (h : qgs t) : Ev (fun n => qgJ n t) (tableB t) := by
  unfold qgJ tableB
  refine Ev.bind (qmo h.Slews.len) ?_
  cases axisB t.Slews
  · exact .done
  · refine Ev.tt rfl (Ev.bind (qmo h.Loads.len) ?_)
    cases axisB t.Loads
    · exact .done
    · rw [qoz h.Slews.len h.Loads.len]
      have e : (((t.Values.length : Nat) : Int) == ((t.Slews.length * t.Loads.length : Nat) : Int)) = decide (t.Values.length = t.Slews.length * t.Loads.length) := by rw [Bool.eq_iff_iff]; simp; omega
      rw [e]
      cases decide (t.Values.length = t.Slews.length * t.Loads.length)
      · exact .done
      · exact Ev.tt rfl (Ev.tt rfl (Ev.bind (qfP h.Values.len) .done))

theorem qnq {t : qG} (h : qgs t) : Ev (fun n => qgI n t) (tableB t) := by
  have hl := h.Values.len
  have hL : Ev (fun n => qcQ t n 0) (bif (t.Values.all fun x => inI x (-1000000) 1000000) then .nxt (t.Values.length : Int) else .ret false) :=
    qji (fun n => by simp only [qcQ, qt (Nat.le_refl _), cond_false]) (fun j hj X hX => by
      simp only [qcQ, qq hj, cond_true, qf8 hj, Option.bind_some, qeI, qm (show j < 9223372036854775807 by omega)]
      cases inI t.Values[j] (-1000000) 1000000
      · exact .done
      · exact hX)
  unfold qgI tableB
  refine Ev.bind (b := !(axisB t.Slews && (axisB t.Loads && decide (t.Values.length = t.Slews.length * t.Loads.length)))) ?_ ?_
  · refine Ev.bind (qlH h.Slews.len) ?_
    cases axisB t.Slews
    · exact .done
    · refine Ev.ff rfl (Ev.bind (qlH h.Loads.len) ?_)
      cases axisB t.Loads
      · exact .done
      · refine Ev.ff rfl (Ev.now ?_)
        rw [qoz h.Slews.len h.Loads.len]
        congr 1
        rw [Bool.eq_iff_iff]; simp; omega
  · cases axisB t.Slews
    · exact .done
    · cases axisB t.Loads
      · exact .done
      · cases decide (t.Values.length = t.Slews.length * t.Loads.length)
        · exact .done
        · refine Ev.ff rfl (Ev.bind hL ?_)
          cases (t.Values.all fun x => inI x (-1000000) 1000000) <;> exact .done
end Go.Fw


namespace Go.Fw
open Go
set_option maxRecDepth 100000

instance : Inhabited qau := ⟨⟨ByteArray.empty, 0, 0, false⟩⟩
instance : Inhabited qG := ⟨⟨[], [], []⟩⟩
instance : Inhabited qZ := ⟨⟨0, 0, 0, 0, [], []⟩⟩
instance : Inhabited qD := ⟨⟨ByteArray.empty, 0, [], [], [], 0, 0⟩⟩
instance : Inhabited qn := ⟨⟨ByteArray.empty, 0, []⟩⟩
instance : Inhabited qak := ⟨⟨ByteArray.empty, 0, 0⟩⟩
instance : Inhabited qaa := ⟨⟨[], [], [], []⟩⟩

theorem lastE {j m : Nat} (h : j < m) (hm : m ≤ 1048576) : ((j : Int) == W64 ((m : Int) - 1)) = decide (j + 1 = m) := by
  rcases qqL h with h | h
  · exact h
  · omega
theorem qhG {α : Type} [Inhabited α] {xs : List α} {g : α → ByteArray} {j : Nat} (h : j < xs.length) : strAt (xs.map g) j = g (gt xs j) := by
  rw [qke (by simpa using h), qig h]; simp
/-- Names that differ, by the list that they are taken from. -/
theorem qjv {α : Type} {xs : List α} {g : α → ByteArray} {ok : α → Prop} (h : okL ok xs) (hg : ∀ x, ok x → okS (g x)) : okL okS (xs.map g) :=
  ⟨by rw [List.length_map]; exact h.1, fun y hy => by
    obtain ⟨x, hx, rfl⟩ := List.mem_map.1 hy
    exact hg x (h.2 x hx)⟩
theorem qin {α β : Type} {xs : List α} {g : α → β} {j : Nat} (h : j < xs.length) (hl : xs.length ≤ 1048576) {y : β} : appS ((xs.take j).map g) [y] = some ((xs.take j).map g ++ [y]) :=
  qc9 (by simp; omega)

/-! ### Pins -/

def pinB (ps : List qau) (j : Nat) : Bool :=
  bif decide (j + 1 = ps.length) then ((gt ps j).Dir == 2) && (((gt ps j).Cap == 0) && !(gt ps j).Clock) else ((gt ps j).Dir == 1) && inI (gt ps j).Cap 0 500
def pinsB (ps : List qau) : Bool := allN (pinB ps) ps.length && (lenB ps 2 5 && namesB (ps.map qau.Name))
def clkN (ps : List qau) (j : Nat) : Nat := cntP (fun i => (gt ps i).Clock) j

theorem qoi {ps : List qau} (h : okL qiW ps) : Ev (fun n => qgz n ps) (pinsB ps) := by
  have hl := h.len
  have hL : Ev (fun n => qbM ps n ([] : List ByteArray) 0) (bif allN (pinB ps) ps.length then .nxt (ps.map qau.Name, (ps.length : Int)) else .ret false) := by
    refine loopN (Lf := qbM ps) (S := fun j => (ps.take j).map qau.Name) (pinB ps) (fun n => ?_) (fun j hj hp X hX => ?_)
    · simp only [qbM, qt (Nat.le_refl _), cond_false, List.take_length]
    · simp only [qbM, qq hj, cond_true, qam hj, Option.bind_some, qin hj hl, qfN (g := qau.Name) hj, lastE hj hl, bne, qcO, qd5, qm (show j < 9223372036854775807 by omega)]
      generalize hc : pinB ps j = c at hX ⊢
      unfold pinB at hc
      cases hd : decide (j + 1 = ps.length)
      · rw [hd] at hc
        simp only [cond_false] at hc ⊢
        subst hc
        exact Ev.okP (fun h1 => Ev.okP1 (fun h2 => hX (by rw [h1, h2]; rfl)))
      · rw [hd] at hc
        simp only [cond_true] at hc ⊢
        subst hc
        refine Ev.okP (fun h1 => Ev.okP (fun h2 => Ev.chkP1 (fun h3 => hX (by rw [h1, h2, h3]; rfl))))
  unfold qgz pinsB
  refine Ev.bind hL ?_
  cases allN (pinB ps) ps.length
  · exact .done
  · simp only [cond_true, qbk, qd5, Option.bind_some, show inI (ps.length : Int) 2 5 = lenB ps 2 5 from qmU (lo := 2) (hi := 5), Bool.true_and]
    exact Ev.andP (fun _ => Ev.last (qhp (qjv h (fun x hx => hx.Name))))

/-- A check of the reference, one pin. -/
def pinS (ps : List qau) (j : Nat) : Bool := allN (neB (ps.map qau.Name) j) j && ((nameB (gt ps j).Name && inI (gt ps j).Cap 0 500) && (bif decide (j + 1 = ps.length) then ((gt ps j).Dir == 2) && (((gt ps j).Cap == 0) && !(gt ps j).Clock) else ((gt ps j).Dir == 1)))

theorem qqp {ps : List qau} : (lenB ps 2 5 && allN (pinS ps) ps.length) = pinsB ps := by
  have e : namesB (ps.map qau.Name) = allN (fun j => nameB (gt ps j).Name && allN (neB (ps.map qau.Name) j) j) ps.length := by
    unfold namesB
    rw [List.length_map]
    exact qgb (fun j hj => by rw [qhG hj])
  unfold pinsB
  rw [e, ← Bool.and_assoc, Bool.and_comm (allN (pinB ps) ps.length), Bool.and_assoc, ← qjf]
  congr 1
  refine qgb (fun j hj => ?_)
  unfold pinS pinB
  cases hd : decide (j + 1 = ps.length)
  · simp only [cond_false]
    cases allN (neB (ps.map qau.Name) j) j <;> cases nameB (gt ps j).Name <;> cases inI (gt ps j).Cap 0 500 <;> cases ((gt ps j).Dir == 1) <;> rfl
  · simp only [cond_true]
    cases hcap : ((gt ps j).Cap == 0)
    · simp
    · have : inI (gt ps j).Cap 0 500 = true := by rw [beq_iff_eq] at hcap; rw [hcap]; rfl
      rw [this]
      cases allN (neB (ps.map qau.Name) j) j <;> cases nameB (gt ps j).Name <;> cases ((gt ps j).Dir == 2) <;> cases (gt ps j).Clock <;> rfl

theorem qol {c : qD} (h : okL qiW c.Pins) : Ev (fun n => qgR n c) (bif pinsB c.Pins then (((clkN c.Pins c.Pins.length : Nat) : Int), true) else (0, false)) := by
  have hl := h.len
  have hL2 : ∀ j, j < c.Pins.length → Ev (fun n => qcU c (j : Int) (gt c.Pins j) n 0) (bif allN (neB (c.Pins.map qau.Name) j) j then .nxt (j : Int) else .ret (0, false)) := by
    intro j hj
    refine qe1 ?_ (fun i hi X hX => Ev.succ ?_)
    · exact Ev.succ (by simp only [qcU, qt (Nat.le_refl _), cond_false]; exact .done)
    · simp only [qcU, qq hi, cond_true, qam (show i < c.Pins.length by omega), Option.bind_some, qfY, qm (show i < 9223372036854775807 by omega)]
      unfold neB
      rw [qhG (g := qau.Name) (show i < c.Pins.length by omega), qhG (g := qau.Name) hj]
      exact Ev.chkP1 (fun _ => hX)
  have hL1 : Ev (fun n => qbK c n 0 0) (bif allN (pinS c.Pins) c.Pins.length then .nxt (((clkN c.Pins c.Pins.length : Nat) : Int), (c.Pins.length : Int)) else .ret (0, false)) := by
    refine loopN (Lf := qbK c) (S := fun j => ((clkN c.Pins j : Nat) : Int)) (pinS c.Pins) (fun n => ?_) (fun j hj hp X hX => ?_)
    · simp only [qbK, qt (Nat.le_refl _), cond_false]
    · have hn : clkN c.Pins j ≤ j := qd9
      have ejl : ((j : Int) == W64 ((c.Pins.length : Int) - 1)) = decide (j + 1 = c.Pins.length) := lastE hj hl
      have elt : decide ((j : Int) < W64 ((c.Pins.length : Int) - 1)) = !decide (j + 1 = c.Pins.length) := by
        rw [qdQ (by omega) (by omega), Bool.eq_iff_iff]; simp; omega
      simp only [qbK, qq hj, cond_true, qam hj, Option.bind_some, qm (show j < 9223372036854775807 by omega), qm (show clkN c.Pins j < 9223372036854775807 by omega), ejl, elt, qeI]
      unfold pinS
      refine Ev.bind (hL2 j hj) ?_
      cases ha : allN (neB (c.Pins.map qau.Name) j) j
      · exact .done
      · simp only [cond_true, Bool.true_and]
        refine Ev.chkT ?_ (fun h1 => ?_)
        · exact Ev.or (qjT (qiX h hj).Name) (fun _ => .done)
        · refine Ev.chkT1 ?_ (fun h2 => ?_)
          · cases decide (j + 1 = c.Pins.length)
            · exact .done
            · simp only [cond_true, Bool.not_true, cond_false, bne, qcO]
              cases ((gt c.Pins j).Dir == 2) <;> cases ((gt c.Pins j).Cap == 0) <;> cases (gt c.Pins j).Clock <;> exact .done
          · have hX := hX (by unfold pinS; rw [ha, h1, h2]; rfl)
            have hck : clkN c.Pins (j + 1) = clkN c.Pins j + (bif (gt c.Pins j).Clock then 1 else 0) := rfl
            rw [hck] at hX
            cases hc : (gt c.Pins j).Clock
            · rw [hc] at hX; exact Ev.ff rfl hX
            · rw [hc] at hX; exact Ev.tt rfl hX
  rw [← qqp]
  unfold qgR
  refine Ev.guard ?_ (fun h1 => ?_)
  · unfold lenB
    have e1 : decide ((c.Pins.length : Int) < 2) = !decide (2 ≤ c.Pins.length) := by rw [Bool.eq_iff_iff]; simp; omega
    have e2 : decide ((c.Pins.length : Int) > 5) = !decide (c.Pins.length ≤ 5) := by rw [Bool.eq_iff_iff]; simp; omega
    rw [e1, e2]
    cases decide (2 ≤ c.Pins.length) <;> cases decide (c.Pins.length ≤ 5) <;> exact .done
  · refine Ev.bind hL1 ?_
    cases allN (pinS c.Pins) c.Pins.length <;> exact .done

/-! ### Lists of tables -/

def mnL (xs : List Int) : Int := (xs.drop 1).foldl (fun m y => if y < m then y else m) (at0 xs 0)
def mxL (xs : List Int) : Int := (xs.drop 1).foldl (fun m y => if y > m then y else m) (at0 xs 0)

theorem qly {t : qG} (h : tableB t = true) : 1 ≤ t.Values.length := by
  unfold tableB axisB lenB at h
  simp only [Bool.and_eq_true, decide_eq_true_eq] at h
  obtain ⟨⟨⟨h1, _⟩, _⟩, ⟨⟨h2, _⟩, _⟩, h3, _⟩ := h
  rw [h3]
  exact Nat.mul_pos h1 h2

theorem qqy {xs : List Int} (h1 : 1 ≤ xs.length) (hl : xs.length ≤ 1048576) : Ev (fun n => qeN n xs) (mnL xs) := by
  have hL := (qmm (Lf := fun n t j => qbx xs n t j) (xs := xs) (step := fun (m y : Int) => if y < m then y else m) (fin := fun t => (t, (xs.length : Int))) 1 (at0 xs 0) (fun _ _ => True) h1 trivial (fun _ _ _ _ => trivial)
    (fun n t => by simp only [qbx, qt (Nat.le_refl _), cond_false])
    (fun j t hj _ X hX => by simpa only [qbx, qq hj, cond_true, qf8 hj, Option.bind_some, qm (show j < 9223372036854775807 by omega)] using hX)).1
  unfold qeN
  rw [show decide ((xs.length : Int) < 1) = false by simp; omega, show idx xs (0 : Int) = some (at0 xs 0) from qdp (j := 0) (by omega)]
  simp only [cond_false, Option.bind_some]
  exact Ev.bind hL .done

theorem qnK {t : qG} (h : qgs t) : Ev (fun n => qeL n t) (bif tableB t then (⟨mnL t.Values, mxL t.Values⟩, 0) else (⟨0, 0⟩, 1)) := by
  unfold qeL
  refine Ev.chk1 (qnq h) (fun hb => ?_)
  have h1 := qly hb
  have hl := h.Values.len
  have hL := (qmm (Lf := fun n (t' : Int × Int) j => qbw t n t'.1 t'.2 j) (xs := t.Values) (step := fun (m : Int × Int) y => (if y < m.1 then y else m.1, if y > m.2 then y else m.2)) (fin := fun t' => (t'.1, t'.2, (t.Values.length : Int))) 1 (at0 t.Values 0, at0 t.Values 0) (fun _ _ => True) h1 trivial (fun _ _ _ _ => trivial)
    (fun n t => by simp only [qbw, qt (Nat.le_refl _), cond_false])
    (fun j t hj _ X hX => by simpa only [qbw, qq hj, cond_true, qf8 hj, Option.bind_some, qm (show j < 9223372036854775807 by omega)] using hX)).1
  have hf : ∀ (ys : List Int) (a b : Int), ys.foldl (fun (m : Int × Int) y => (if y < m.1 then y else m.1, if y > m.2 then y else m.2)) (a, b) = (ys.foldl (fun m y => if y < m then y else m) a, ys.foldl (fun m y => if y > m then y else m) b) := by
    intro ys
    induction ys with
    | nil => intro a b; rfl
    | cons y ys ih => intro a b; simp only [List.foldl_cons, ih]
  rw [hf] at hL
  rw [show idx t.Values (0 : Int) = some (at0 t.Values 0) from qdp (j := 0) (by omega)]
  simp only [Option.bind_some]
  exact Ev.bind hL .done

def tabB (pos : Bool) (t : qG) : Bool := tableB t && (!pos || decide (0 ≤ mnL t.Values))
def tablesB (ts : List qG) (pos : Bool) : Bool := decide (ts.length = 2) && ts.all (tabB pos)

theorem qiJ {ts : List qG} {pos : Bool} (h : okL qgs ts) : Ev (fun n => qdV n ts pos) (tablesB ts pos) := by
  have hl := h.len
  have h1 : Ev (fun n => qai n ts pos) (ixL (fun x => !tabB pos x) ts) :=
    qe3 (fin := (ts.length : Int)) (Lf := qK ts pos) (pf := fun n x => qeO n x pos) (fun x hx => by
        unfold qeO tabB
        refine Ev.or (qn8 (h.2 x hx)) (fun hb => ?_)
        cases pos
        · exact .done
        · refine Ev.tt rfl (Ev.bind (qqy (qly hb) (h.2 x hx).Values.len) (Ev.now ?_))
          congr 1
          rw [Bool.eq_iff_iff]; simp)
      (fun n => by simp only [qK, qt (Nat.le_refl _), cond_false])
      (fun n j x hx => by
        have hj := (List.getElem?_eq_some_iff.1 hx).1
        simp only [qK, qq hj, cond_true, qaU hx, Option.bind_some, qm (show j < 9223372036854775807 by omega)])
      (fun n => by unfold qai; congr 1; funext o; cases o <;> rfl)
  unfold qdV qay tablesB
  rw [show ((ts.length : Int) == 2) = decide (ts.length = 2) by rw [Bool.eq_iff_iff]; simp; omega]
  refine Ev.andP (fun _ => Ev.bind (Ev.bind h1 (Ev.now rfl)) (Ev.now ?_))
  rw [qi8, qlj]

theorem qgx {ts : List qG} {pos : Bool} (h : okL qgs ts) : Ev (fun n => qcz n ts pos) (tablesB ts pos) := by
  unfold qcz tablesB
  rw [show ((ts.length : Int) != 2) = !decide (ts.length = 2) by rw [Bool.eq_iff_iff]; simp; omega]
  simp only [qcO]
  refine Ev.andP (fun h2 => ?_)
  have h2 : ts.length = 2 := by simpa using h2
  have hL : Ev (fun n => qbC ts pos n 0) (bif allN (fun j => tabB pos (gt ts j)) ts.length then .nxt (2 : Int) else .ret false) := by
    refine qe1 (len := ts.length) ?_ (fun j hj X hX => Ev.succ ?_)
    · rw [h2]; exact Ev.succ (by simp only [qbC]; exact .done)
    · simp only [qbC, show decide ((j : Int) < 2) = true by simp; omega, cond_true, qam hj, Option.bind_some, qm (show j < 9223372036854775807 by omega)]
      refine Ev.bind (qnK (qiX h hj)) ?_
      unfold tabB
      cases tableB (gt ts j)
      · exact .done
      · simp only [cond_true, Bool.true_and]
        refine Ev.ff rfl ?_
        cases pos
        · exact hX
        · refine Ev.tt rfl ?_
          rw [show decide (mnL (gt ts j).Values < 0) = !decide (0 ≤ mnL (gt ts j).Values) by rw [Bool.eq_iff_iff]; simp]
          simp only [qcO]
          exact Ev.okP1 (fun _ => hX)
  rw [qhr]
  refine Ev.bind hL ?_
  cases allN (fun j => tabB pos (gt ts j)) ts.length <;> exact .done
end Go.Fw


namespace Go.Fw
open Go
set_option maxRecDepth 100000

theorem qfk {α : Type} [Inhabited α] {xs : List α} {x : Int} (h0 : 0 ≤ x) (h1 : x < xs.length) : idx xs x = some (gt xs x.toNat) := by
  have := qam (xs := xs) (j := x.toNat) (by omega)
  rwa [← qlK h0] at this
theorem qmu {q : Nat → Bool} {m n : Nat} (h : m ≤ n) : cntP q m ≤ cntP q n := by
  induction n with
  | zero => obtain rfl : m = 0 := by omega
            exact Nat.le_refl _
  | succ n ih =>
    rcases Nat.lt_or_eq_of_le h with h | rfl
    · exact Nat.le_trans (ih (by omega)) (Nat.le_add_right _ _)
    · exact Nat.le_refl _
theorem qjo {m k : Nat} : decide ((m : Int) ≤ (k : Int)) = decide (m ≤ k) := by rw [Bool.eq_iff_iff]; simp
theorem qnj {q : Nat → Bool} {n i j : Nat} (hi : i < j) (hj : j < n) (h1 : q i = true) (h2 : q j = true) : 2 ≤ cntP q n := by
  have e1 : cntP q (i + 1) = cntP q i + 1 := by rw [cntP, h1]; rfl
  have e2 : cntP q (j + 1) = cntP q j + 1 := by rw [cntP, h2]; rfl
  have m1 := qmu (q := q) (show i + 1 ≤ j by omega)
  have m2 := qmu (q := q) (show j + 1 ≤ n by omega)
  omega
theorem qnd {q : Nat → Bool} {n i j : Nat} (hn : cntP q n ≤ 1) (hi : i < n) (hj : j < n) (h1 : q i = true) (h2 : q j = true) : i = j := by
  rcases Nat.lt_trichotomy i j with h | h | h
  · have := qnj h hj h1 h2; omega
  · exact h
  · have := qnj h hi h2 h1; omega

/-! ### Arcs -/

def clkIx (ps : List qau) : Int := ixL (fun p => p.Clock) ps
def clkAt (ps : List qau) (x : Int) : Bool := (gt ps x.toNat).Clock

theorem qpN {c : qD} (hl : c.Pins.length ≤ 1048576) : Ev (fun n => qe8 n c) (clkIx c.Pins) := by
  unfold qe8
  refine Ev.bind (b := clkIx c.Pins) ?_ .done
  exact qe3 (fin := (c.Pins.length : Int)) (Lf := qL c.Pins) (pf := fun n x => qfh n x) (fun _ _ => .done)
    (fun n => by simp only [qL, qt (Nat.le_refl _), cond_false])
    (fun n j x hx => by
      have hj := (List.getElem?_eq_some_iff.1 hx).1
      simp only [qL, qq hj, cond_true, qaU hx, Option.bind_some, qm (show j < 9223372036854775807 by omega)])
    (fun n => by unfold qaL; congr 1; funext o; cases o <;> rfl)

def arcI (ps : List qau) (a : qZ) : Bool :=
  bif (a.Kind == 4) || (a.Kind == 5) then
    (a.Sense == 0) && (((a.Slew.length : Int) == 0) && (tablesB a.Delay false && ((a.From == clkIx ps) && (decide (a.From ≥ 0) && (inI a.To 0 (ps.length - 2) && !(a.To == a.From))))))
  else
    (tablesB a.Delay true && (tablesB a.Slew true && ((a.To == (ps.length : Int) - 1) && inI a.From 0 (ps.length - 2)))) &&
      (bif a.Kind == 1 then !clkAt ps a.From && inI a.Sense 1 3 else (bif (a.Kind == 2) || (a.Kind == 3) then clkAt ps a.From && (a.Sense == 0) else false))

def arcS (ps : List qau) (a : qZ) : Bool :=
  (inI a.From 0 (ps.length - 2) && inI a.To 0 (ps.length - 1)) &&
    (bif a.Kind == 1 then !clkAt ps a.From && ((a.To == (ps.length : Int) - 1) && (inI a.Sense 1 3 && (tablesB a.Delay true && tablesB a.Slew true)))
     else (bif (a.Kind == 2) || (a.Kind == 3) then clkAt ps a.From && ((a.To == (ps.length : Int) - 1) && ((a.Sense == 0) && (tablesB a.Delay true && tablesB a.Slew true)))
     else (bif (a.Kind == 4) || (a.Kind == 5) then clkAt ps a.From && (decide (a.To < (ps.length : Int) - 1) && (!clkAt ps a.To && ((a.Sense == 0) && (tablesB a.Delay false && ((a.Slew.length : Int) == 0))))) else false)))

theorem qkM {c d : Bool} : (bif c then some c else some d) = some (c || d) := by cases c <;> rfl
theorem qno {c d : Bool} : (bif c then some true else some d) = some (c || d) := by cases c <;> rfl

theorem qnJ {n : Nat} {k : Int} : qgH n k = some ((k == 4) || (k == 5)) := by simp only [qgH, qno]
theorem qp7 {c : qD} {a : qZ} (h : okL qiW c.Pins) (ha : qjV a) (hm : 2 ≤ c.Pins.length) : Ev (fun n => qe6 n c a) (arcI c.Pins a) := by
  have hl := h.len
  have e1 : W64 ((c.Pins.length : Int) - 1) = (c.Pins.length : Int) - 1 := qdh (by omega)
  have e2 : W64 ((c.Pins.length : Int) - 1 - 1) = (c.Pins.length : Int) - 2 := by rw [qdQ (by omega) (by omega)]; omega
  simp only [qe6, qnJ, Option.bind_some, qec, qbT, qbk, e1, e2, qd5, qkM, bne]
  unfold arcI
  refine Ev.iff (fun _ => Ev.last ?_) (fun _ => Ev.guardB ?_ (fun hb => ?_))
  · exact Ev.andP fun _ => Ev.andP fun _ => Ev.and (qiJ ha.Delay) fun _ => Ev.bind (qpN hl) (Ev.andP fun _ => Ev.andP fun _ => Ev.andP fun _ => .done)
  · refine Ev.or (qiJ ha.Delay) fun _ => Ev.or (qiJ ha.Slew) fun _ => ?_
    simp only [qcO]
    exact Ev.orBP fun _ => .done
  · have hf : 0 ≤ a.From ∧ a.From ≤ (c.Pins.length : Int) - 2 := by
      simp only [Bool.and_eq_true, qc1] at hb
      exact hb.2.2.2
    simp only [qfk hf.1 (show a.From < (c.Pins.length : Int) by omega), Option.bind_some]
    exact Ev.iff (fun _ => Ev.andP fun _ => .done) (fun _ => Ev.iff (fun _ => Ev.andP fun _ => .done) (fun _ => .done))

theorem qpb {c : qD} {a : qZ} (h : okL qiW c.Pins) (ha : qjV a) (hm : 2 ≤ c.Pins.length) : Ev (fun n => qhm n c a) (arcS c.Pins a) := by
  have hl := h.len
  have e1 : W64 ((c.Pins.length : Int) - 1) = (c.Pins.length : Int) - 1 := qdh (by omega)
  have e2 : W64 ((c.Pins.length : Int) - 1 - 1) = (c.Pins.length : Int) - 2 := by rw [qdQ (by omega) (by omega)]; omega
  simp only [qhm, Option.bind_some, e1, e2, qeI, qkM]
  unfold arcS
  refine Ev.guardB ?_ (fun hb => ?_)
  · simp only [qcO]
    exact Ev.orBP fun _ => .done
  · have hf : (0 ≤ a.From ∧ a.From ≤ (c.Pins.length : Int) - 2) ∧ (0 ≤ a.To ∧ a.To ≤ (c.Pins.length : Int) - 1) := by
      simp only [Bool.and_eq_true, qc1] at hb
      exact hb
    simp only [qfk hf.1.1 (show a.From < (c.Pins.length : Int) by omega), qfk hf.2.1 (show a.To < (c.Pins.length : Int) by omega), Option.bind_some]
    refine Ev.iff (fun _ => ?_) (fun _ => Ev.iff (fun _ => ?_) (fun _ => Ev.iff (fun _ => ?_) (fun _ => .done)))
    · exact Ev.andP fun _ => Ev.andP fun _ => Ev.andP fun _ => Ev.and (qgx ha.Delay) fun _ => Ev.last (qgx ha.Slew)
    · exact Ev.andP fun _ => Ev.andP fun _ => Ev.andP fun _ => Ev.and (qgx ha.Delay) fun _ => Ev.last (qgx ha.Slew)
    · exact Ev.andP fun _ => Ev.andP fun _ => Ev.andP fun _ => Ev.andP fun _ => Ev.and (qgx ha.Delay) fun _ => .done

/-- The place of the clock, where there is one at most. -/
theorem qkD {ps : List qau} (h1 : clkN ps ps.length ≤ 1) {x : Int} (hx : 0 ≤ x) : clkIx ps = x ↔ x < ps.length ∧ clkAt ps x = true := by
  unfold clkIx ixL
  cases hf : ps.findIdx? (fun p => p.Clock) with
  | some j =>
    obtain ⟨hj, hp, _⟩ := List.findIdx?_eq_some_iff_getElem.1 hf
    have hpj : (gt ps j).Clock = true := by rw [qig hj]; exact hp
    constructor
    · intro e
      have e : (j : Int) = x := e
      subst e
      exact ⟨by omega, by unfold clkAt; rw [Int.toNat_natCast]; exact hpj⟩
    · rintro ⟨hl, hc⟩
      have := qnd h1 hj (show x.toNat < ps.length by omega) hpj hc
      show (j : Int) = x
      omega
  | none =>
    have hn := List.findIdx?_eq_none_iff.1 hf
    constructor
    · intro e
      have e : (-1 : Int) = x := e
      omega
    · rintro ⟨hl, hc⟩
      have hxl : x.toNat < ps.length := by omega
      unfold clkAt at hc
      rw [qig hxl] at hc
      have := hn _ (List.getElem_mem hxl)
      rw [hc] at this
      exact absurd this (by decide)

theorem qhN {ps : List qau} (h : pinsB ps = true) : (2 ≤ ps.length ∧ ps.length ≤ 5) ∧ clkAt ps ((ps.length : Int) - 1) = false := by
  unfold pinsB lenB at h
  simp only [Bool.and_eq_true, decide_eq_true_eq] at h
  refine ⟨h.2.1, ?_⟩
  have h1 := qa8.1 h.1 (ps.length - 1) (by omega)
  unfold pinB at h1
  rw [show decide (ps.length - 1 + 1 = ps.length) = true by simp; omega] at h1
  simp only [cond_true, Bool.and_eq_true, Bool.not_eq_true'] at h1
  unfold clkAt
  rw [show ((ps.length : Int) - 1).toNat = ps.length - 1 by omega]
  exact h1.2.2

theorem qpt {ps : List qau} {a : qZ} (h : pinsB ps = true) (h1 : clkN ps ps.length ≤ 1) : arcI ps a = arcS ps a := by
  obtain ⟨⟨hm, hm5⟩, hlast⟩ := qhN h
  rw [Bool.eq_iff_iff]
  unfold arcI arcS
  cases h45 : ((a.Kind == 4) || (a.Kind == 5)) with
  | true =>
    have k1 : (a.Kind == 1) = false := by simp at h45 ⊢; omega
    have k23 : ((a.Kind == 2) || (a.Kind == 3)) = false := by simp at h45 ⊢; omega
    rw [k1, k23]
    simp only [cond_true, cond_false, Bool.and_eq_true, qc1, decide_eq_true_eq, beq_iff_eq, Bool.not_eq_true', beq_eq_false_iff_ne, ne_eq]
    constructor
    · rintro ⟨hs, hsl, hd, hf, hf0, ht, hne⟩
      obtain ⟨hl, hc⟩ := (qkD h1 hf0).1 hf.symm
      have hfl : a.From ≠ (ps.length : Int) - 1 := by intro e; rw [e, hlast] at hc; cases hc
      refine ⟨⟨⟨hf0, by omega⟩, ⟨ht.1, by omega⟩⟩, hc, by omega, ?_, hs, hd, hsl⟩
      cases hct : clkAt ps a.To with
      | false => rfl
      | true =>
        have := (qkD h1 ht.1).2 ⟨by omega, hct⟩
        omega
    · rintro ⟨⟨hf, ht⟩, hc, hlt, hct, hs, hd, hsl⟩
      have := (qkD h1 hf.1).2 ⟨by omega, hc⟩
      refine ⟨hs, hsl, hd, this.symm, hf.1, ⟨ht.1, by omega⟩, ?_⟩
      intro e
      rw [e, hc] at hct
      cases hct
  | false =>
    simp only [cond_false, Bool.and_eq_true, qc1, beq_iff_eq]
    cases (a.Kind == 1)
    · cases ((a.Kind == 2) || (a.Kind == 3))
      · simp
      · simp only [cond_true, cond_false, Bool.and_eq_true, beq_iff_eq]
        constructor
        · rintro ⟨⟨h1, h2, h3, h4⟩, h5, h6⟩
          exact ⟨⟨h4, by omega⟩, h5, h3, h6, h1, h2⟩
        · rintro ⟨⟨h4, h7⟩, h5, h3, h6, h1, h2⟩
          exact ⟨⟨h1, h2, h3, h4⟩, h5, h6⟩
    · simp only [cond_true, Bool.and_eq_true, qc1, Bool.not_eq_true', beq_iff_eq]
      constructor
      · rintro ⟨⟨h1, h2, h3, h4⟩, h5, h6⟩
        exact ⟨⟨h4, by omega⟩, h5, h3, h6, h1, h2⟩
      · rintro ⟨⟨h4, h7⟩, h5, h3, h6, h1, h2⟩
        exact ⟨⟨h1, h2, h3, h4⟩, h5, h6⟩

theorem qmj {ps : List qau} {a : qZ} (h : arcS ps a = true) : 1 ≤ a.Kind ∧ a.Kind ≤ 5 := by
  unfold arcS at h
  rw [Bool.and_eq_true] at h
  have h := h.2
  cases h1 : (a.Kind == 1)
  · cases h2 : ((a.Kind == 2) || (a.Kind == 3))
    · cases h4 : ((a.Kind == 4) || (a.Kind == 5))
      · rw [h1, h2, h4] at h; cases h
      · simp at h4; omega
    · simp at h2; omega
  · simp at h1; omega

def sameArc (x y : qZ) : Bool := (x.Kind == y.Kind) && ((x.From == y.From) && (x.To == y.To))
def newArc (ar : List qZ) (j : Nat) : Bool := allN (fun i => !sameArc (gt ar i) (gt ar j)) j

theorem qop {c : qD} (h : okL qiW c.Pins) (ha : okL qjV c.Arcs) (hm : 2 ≤ c.Pins.length) : Ev (fun n => qel n c) (allN (fun j => arcI c.Pins (gt c.Arcs j) && newArc c.Arcs j) c.Arcs.length && decide (c.Arcs.length ≤ 8)) := by
  have hl := ha.len
  have h1 : ∀ (ar : List qZ) (y : qZ), ar.length ≤ 1048576 → Ev (fun n => qab n ar y) (ar.any fun x => sameArc x y) := by
    intro ar y hl
    unfold qab
    refine Ev.bind (b := ixL (fun x => sameArc x y) ar) (qe3 (fin := (ar.length : Int)) (Lf := qJ ar y) (pf := fun n x => qdB n x y) (fun x _ => ?_)
      (fun n => by simp only [qJ, qt (Nat.le_refl _), cond_false])
      (fun n j x hx => by
        have hj := (List.getElem?_eq_some_iff.1 hx).1
        simp only [qJ, qq hj, cond_true, qaU hx, Option.bind_some, qm (show j < 9223372036854775807 by omega)])
      (fun n => by unfold qaE; congr 1; funext o; cases o <;> rfl)) (Ev.now (by rw [qi8]))
    unfold qdB sameArc
    exact Ev.andP fun _ => Ev.andP fun _ => .done
  have hL : Ev (fun n => qbl c n 0) (bif allN (fun j => arcI c.Pins (gt c.Arcs j) && newArc c.Arcs j) c.Arcs.length then .nxt (c.Arcs.length : Int) else .ret false) := by
    refine qe1 ?_ (fun j hj X hX => Ev.succ ?_)
    · exact Ev.succ (by simp only [qbl, qt (Nat.le_refl _), cond_false]; exact .done)
    · simp only [qbl, qq hj, cond_true, qam hj, Option.bind_some, qoN (Nat.le_of_lt hj), qm (show j < 9223372036854775807 by omega)]
      refine Ev.chk (qp7 h (qiX ha hj) hm) fun _ => Ev.chkT1 ?_ (fun _ => hX)
      refine (h1 _ _ (by simp; omega)).cast ?_
      rw [qpr (Nat.le_of_lt hj)]; rfl
  unfold qel
  refine Ev.bind hL ?_
  cases allN (fun j => arcI c.Pins (gt c.Arcs j) && newArc c.Arcs j) c.Arcs.length
  · exact .done
  · refine Ev.now ?_
    show some (decide ((c.Arcs.length : Int) ≤ ((8 : Nat) : Int))) = some (true && decide (c.Arcs.length ≤ 8))
    rw [qjo, Bool.true_and]

def hasB (ar : List qZ) (k : Int) : Bool := ar.any fun a => a.Kind == k
theorem qkp {c : qD} {k : Int} (hl : c.Arcs.length ≤ 1048576) : Ev (fun n => qcw n c k) (hasB c.Arcs k) := by
  unfold qcw qaF
  exact Ev.last (Ev.bind (b := ixL (fun x => x.Kind == k) c.Arcs) (qe3 (fin := (c.Arcs.length : Int)) (Lf := qM c.Arcs k) (pf := fun n x => qf3 n x k) (fun x _ => .done)
      (fun n => by simp only [qM, qt (Nat.le_refl _), cond_false])
      (fun n j x hx => by
        have hj := (List.getElem?_eq_some_iff.1 hx).1
        simp only [qM, qq hj, cond_true, qaU hx, Option.bind_some, qm (show j < 9223372036854775807 by omega)])
      (fun n => by unfold qaV; congr 1; funext o; cases o <;> rfl)) (Ev.now (by rw [qi8]; rfl)))

def kindN (ar : List qZ) (k : Nat) (j : Nat) : Nat := cntP (fun i => (gt ar i).Kind == (k : Int)) j
theorem qmA {ar : List qZ} {k : Nat} : decide (((kindN ar k ar.length : Nat) : Int) > 0) = hasB ar k := by
  rw [show decide (((kindN ar k ar.length : Nat) : Int) > 0) = decide (0 < kindN ar k ar.length) by simp]
  unfold kindN hasB
  rw [qnk, qpF]
theorem qnU {ar : List qZ} {k : Nat} : (((kindN ar k ar.length : Nat) : Int) == 0) = !hasB ar k := by
  rw [← qmA, Bool.eq_iff_iff]; simp

theorem qnb {c : qD} (ha : okL qjV c.Arcs) (hk : ∀ j, j < c.Arcs.length → 1 ≤ (gt c.Arcs j).Kind ∧ (gt c.Arcs j).Kind ≤ 5) : Ev (fun n => qfW n c) (vecC (fun k => kindN c.Arcs k c.Arcs.length) 6) := by
  have hl := ha.len
  have hL : Ev (fun n => qbP c n (vecC (fun _ => 0) 6) 0) (vecC (fun k => kindN c.Arcs k c.Arcs.length) 6, (c.Arcs.length : Int)) := by
    refine loopF (Lf := qbP c) (S := fun j => vecC (fun k => kindN c.Arcs k j) 6) (len := c.Arcs.length) (fun n => ?_) (fun j hj X hX => ?_)
    · simp only [qbP, qt (Nat.le_refl _), cond_false]
    · obtain ⟨k1, k5⟩ := hk j hj
      have ek : (gt c.Arcs j).Kind = (((gt c.Arcs j).Kind.toNat : Nat) : Int) := qlK (by omega)
      have hc : kindN c.Arcs (gt c.Arcs j).Kind.toNat j ≤ j := qd9
      simp only [qbP, qq hj, cond_true, qam hj, Option.bind_some, qm (show j < 9223372036854775807 by omega)]
      rw [ek, qhL (show (gt c.Arcs j).Kind.toNat < 6 by omega)]
      simp only [Option.bind_some]
      rw [qmh (c := fun k => kindN c.Arcs k j) (by show kindN c.Arcs _ j < _; omega)]
      have : vecC (fun i => kindN c.Arcs i j + (bif decide ((gt c.Arcs j).Kind.toNat = i) then 1 else 0)) 6 = vecC (fun k => kindN c.Arcs k (j + 1)) 6 := by
        refine qhV (fun k _ => ?_)
        show _ = kindN c.Arcs k j + (bif (gt c.Arcs j).Kind == (k : Int) then 1 else 0)
        congr 2
        rw [Bool.eq_iff_iff]; simp; omega
      rw [this]
      exact hX
  unfold qfW
  rw [show mkS 6 (0 : Int) = some (vecC (fun _ => 0) 6) from qju (m := 6) (by omega)]
  simp only [Option.bind_some]
  exact Ev.bind hL .done

/-! ### Cells -/

def kindB (c : qD) : Bool :=
  bif c.Kind == 1 then (((clkN c.Pins c.Pins.length : Nat) : Int) == 0) && (((c.Truth.length : Int) == ((2 ^ (c.Pins.length - 1) : Nat) : Int)) && (c.Truth.all fun x => inI x 0 1))
  else bif c.Kind == 2 then (((clkN c.Pins c.Pins.length : Nat) : Int) == 1) && (((c.Truth.length : Int) == 0) && (!hasB c.Arcs 1 && !(hasB c.Arcs 2 == hasB c.Arcs 3)))
  else bif c.Kind == 3 then (((clkN c.Pins c.Pins.length : Nat) : Int) == 1) && (((c.Truth.length : Int) == 0) && (hasB c.Arcs 1 && (hasB c.Arcs 2 && !hasB c.Arcs 3)))
  else false

theorem qmG {c : qD} (h : kindB c = true) : clkN c.Pins c.Pins.length ≤ 1 := by
  unfold kindB at h
  cases h1 : (c.Kind == 1)
  · cases h2 : (c.Kind == 2)
    · cases h3 : (c.Kind == 3)
      · rw [h1, h2, h3] at h; cases h
      · rw [h1, h2, h3] at h
        simp only [cond_true, cond_false, Bool.and_eq_true, beq_iff_eq] at h
        omega
    · rw [h1, h2] at h
      simp only [cond_true, cond_false, Bool.and_eq_true, beq_iff_eq] at h
      omega
  · rw [h1] at h
    simp only [cond_true, Bool.and_eq_true, beq_iff_eq] at h
    omega

theorem qnv {m : Nat} (h1 : 2 ≤ m) (h2 : m ≤ 5) : shlS 1 (W64 ((m : Int) - 1)) = some ((2 ^ (m - 1) : Nat) : Int) ∧ shlS 1 (IntKind.wrap .u64 (W64 ((m : Int) - 1))) = some ((2 ^ (m - 1) : Nat) : Int) := by
  have : m = 2 ∨ m = 3 ∨ m = 4 ∨ m = 5 := by omega
  rcases this with rfl | rfl | rfl | rfl <;> exact ⟨by decide, by decide⟩

theorem qny {c : qD} (hc : qjt c) (hm : 2 ≤ c.Pins.length) (hm5 : c.Pins.length ≤ 5) : Ev (fun n => qdT n c) (kindB c) := by
  have hl := hc.Pins.len
  have hL : Ev (fun n => qaJ c n 0 0) (((clkN c.Pins c.Pins.length : Nat) : Int), (c.Pins.length : Int)) := by
    refine loopF (Lf := qaJ c) (S := fun j => ((clkN c.Pins j : Nat) : Int)) (len := c.Pins.length) (fun n => ?_) (fun j hj X hX => ?_)
    · simp only [qaJ, qt (Nat.le_refl _), cond_false]
    · have hn : clkN c.Pins j ≤ j := qd9
      simp only [qaJ, qq hj, cond_true, qam hj, Option.bind_some, qm (show j < 9223372036854775807 by omega), qm (show clkN c.Pins j < 9223372036854775807 by omega)]
      have hck : clkN c.Pins (j + 1) = clkN c.Pins j + (bif (gt c.Pins j).Clock then 1 else 0) := rfl
      rw [hck] at hX
      cases hc : (gt c.Pins j).Clock
      · rw [hc] at hX; exact Ev.ff rfl hX
      · rw [hc] at hX; exact Ev.tt rfl hX
  unfold qdT kindB
  refine Ev.bind hL ?_
  simp only [qbT, qbk, Option.bind_some, (qnv hm hm5).1]
  have hal := hc.Arcs.len
  refine Ev.iff (fun _ => ?_) (fun _ => Ev.iff (fun _ => ?_) (fun _ => Ev.iff (fun _ => ?_) (fun _ => .done)))
  · exact Ev.andP fun _ => Ev.andP fun _ => Ev.last (qfP hc.Truth.len)
  · exact Ev.andP fun _ => Ev.andP fun _ => Ev.bind (qkp hal) (Ev.andP fun _ => Ev.bind (qkp hal) (Ev.bind (qkp hal) .done))
  · exact Ev.andP fun _ => Ev.andP fun _ => Ev.and (qkp hal) fun _ => Ev.and (qkp hal) fun _ => Ev.bind (qkp hal) .done

def cellB (c : qD) : Bool :=
  nameB c.Name && (pinsB c.Pins && ((allN (fun j => arcI c.Pins (gt c.Arcs j) && newArc c.Arcs j) c.Arcs.length && decide (c.Arcs.length ≤ 8)) && (inI c.Leak 0 100000 && (inI c.Energy 0 100000 && kindB c))))

theorem qoP {c : qD} (hc : qjt c) : Ev (fun n => qhh n c) (cellB c) := by
  simp only [qhh, qmD hc.Name, qd5, Option.bind_some]
  unfold cellB
  refine Ev.andP fun _ => Ev.and (qoi hc.Pins) fun hp => ?_
  obtain ⟨⟨hm, hm5⟩, _⟩ := qhN hp
  exact Ev.and (qop hc.Pins hc.Arcs hm) fun _ => Ev.andP fun _ => Ev.andP fun _ => Ev.last (qny hc hm hm5)

theorem qnQ {c : qD} (hc : qjt c) : Ev (fun n => qhn n c) (cellB c) := by
  have hal := hc.Arcs.len
  have htl := hc.Truth.len
  have e : cellB c = ((pinsB c.Pins && (nameB c.Name && (decide (c.Arcs.length ≤ 8) && (inI c.Leak 0 100000 && inI c.Energy 0 100000)))) && (allN (fun j => arcS c.Pins (gt c.Arcs j) && newArc c.Arcs j) c.Arcs.length && kindB c)) := by
    unfold cellB
    cases hk : kindB c
    · simp
    · cases hp : pinsB c.Pins
      · simp
      · rw [qgb (fun j _ => by rw [qpt hp (qmG hk)])]
        cases nameB c.Name <;> cases allN (fun j => arcS c.Pins (gt c.Arcs j) && newArc c.Arcs j) c.Arcs.length <;> cases decide (c.Arcs.length ≤ 8) <;> cases inI c.Leak 0 100000 <;> cases inI c.Energy 0 100000 <;> rfl
  rw [e]
  unfold qhn
  refine Ev.bind (qol hc.Pins) ?_
  cases hp : pinsB c.Pins
  · exact .done
  · obtain ⟨⟨hm, hm5⟩, _⟩ := qhN hp
    simp only [cond_true, Bool.true_and, Bool.not_true, cond_false]
    refine Ev.guardB ?_ (fun _ => ?_)
    · simp only [qeI, Option.bind_some, qcO]
      refine Ev.orB (qjT hc.Name) fun _ => ?_
      rw [show decide ((c.Arcs.length : Int) > 8) = !decide (c.Arcs.length ≤ 8) by rw [Bool.eq_iff_iff]; simp; omega, qcO]
      exact Ev.orBP fun _ => Ev.orBP fun _ => .done
    · have hL2 : ∀ j, j < c.Arcs.length → Ev (fun n => qb7 c (j : Int) (gt c.Arcs j) n 0) (bif newArc c.Arcs j then .nxt (j : Int) else .ret false) := by
        intro j hj
        refine qe1 ?_ (fun i hi X hX => Ev.succ ?_)
        · exact Ev.succ (by simp only [qb7, qt (Nat.le_refl _), cond_false]; exact .done)
        · simp only [qb7, qq hi, cond_true, qam (show i < c.Arcs.length by omega), Option.bind_some, qm (show i < 9223372036854775807 by omega)]
          unfold sameArc
          cases ((gt c.Arcs i).Kind == (gt c.Arcs j).Kind)
          · exact hX
          · cases ((gt c.Arcs i).From == (gt c.Arcs j).From)
            · exact hX
            · cases ((gt c.Arcs i).To == (gt c.Arcs j).To)
              · exact hX
              · exact .done
      have hL1 : Ev (fun n => qdc c n 0) (bif allN (fun j => arcS c.Pins (gt c.Arcs j) && newArc c.Arcs j) c.Arcs.length then .nxt (c.Arcs.length : Int) else .ret false) := by
        refine qe1 ?_ (fun j hj X hX => Ev.succ ?_)
        · exact Ev.succ (by simp only [qdc, qt (Nat.le_refl _), cond_false]; exact .done)
        · simp only [qdc, qq hj, cond_true, qam hj, Option.bind_some, qm (show j < 9223372036854775807 by omega)]
          refine Ev.chk (qpb hc.Pins (qiX hc.Arcs hj) hm) fun _ => Ev.bind (hL2 j hj) ?_
          cases newArc c.Arcs j
          · exact .done
          · exact hX
      have hL3 : Ev (fun n => qdl c n 0) (bif (c.Truth.all fun x => inI x 0 1) then .nxt (c.Truth.length : Int) else .ret false) :=
        qji (fun n => by simp only [qdl, qt (Nat.le_refl _), cond_false]) (fun j hj X hX => by
          simp only [qdl, qq hj, cond_true, qf8 hj, Option.bind_some, qeI, qm (show j < 9223372036854775807 by omega), qcO]
          exact Ev.okP1 fun _ => hX)
      refine Ev.bind hL1 ?_
      cases hA : allN (fun j => arcS c.Pins (gt c.Arcs j) && newArc c.Arcs j) c.Arcs.length
      · exact .done
      · have hk : ∀ j, j < c.Arcs.length → 1 ≤ (gt c.Arcs j).Kind ∧ (gt c.Arcs j).Kind ≤ 5 := fun j hj => by
          have := qa8.1 hA j hj
          rw [Bool.and_eq_true] at this
          exact qmj this.1
        simp only [cond_true, Bool.true_and]
        refine Ev.bind (qnb hc.Arcs hk) ?_
        simp only [(qnv hm hm5).2, Option.bind_some,
          show idx (vecC (fun k => kindN c.Arcs k c.Arcs.length) 6) (1 : Int) = some ((kindN c.Arcs 1 c.Arcs.length : Nat) : Int) from qhL (k := 1) (by omega),
          show idx (vecC (fun k => kindN c.Arcs k c.Arcs.length) 6) (2 : Int) = some ((kindN c.Arcs 2 c.Arcs.length : Nat) : Int) from qhL (k := 2) (by omega),
          show idx (vecC (fun k => kindN c.Arcs k c.Arcs.length) 6) (3 : Int) = some ((kindN c.Arcs 3 c.Arcs.length : Nat) : Int) from qhL (k := 3) (by omega), qmA, qnU]
        unfold kindB
        refine Ev.iff (fun _ => ?_) (fun _ => Ev.iff (fun _ => ?_) (fun _ => Ev.iff (fun _ => ?_) (fun _ => .done)))
        · refine Ev.bind hL3 ?_
          cases (c.Truth.all fun x => inI x 0 1)
          · exact Ev.now (by simp)
          · exact (Ev.andP (fun _ => .done)).cast (by rw [Bool.and_true])
        · refine (Ev.andP fun _ => Ev.andP fun _ => Ev.andP fun _ => .done).cast ?_
          cases (((clkN c.Pins c.Pins.length : Nat) : Int) == 1) <;> cases ((c.Truth.length : Int) == 0) <;> cases hasB c.Arcs ((1 : Nat) : Int) <;> cases hasB c.Arcs ((2 : Nat) : Int) <;> cases hasB c.Arcs ((3 : Nat) : Int) <;> rfl
        · refine (Ev.andP fun _ => Ev.andP fun _ => Ev.andP fun _ => Ev.andP fun _ => .done).cast ?_
          cases (((clkN c.Pins c.Pins.length : Nat) : Int) == 1) <;> cases ((c.Truth.length : Int) == 0) <;> cases hasB c.Arcs ((1 : Nat) : Int) <;> cases hasB c.Arcs ((2 : Nat) : Int) <;> cases hasB c.Arcs ((3 : Nat) : Int) <;> rfl

/-! ### Libraries -/

def libB (l : qv) : Bool := l.Cells.all cellB && (decide (l.Cells.length ≤ 8) && namesB (l.Cells.map qD.Name))

theorem qmT {l : qv} (h : qf9 l) : Ev (fun n => qfo n l) (libB l) := by
  have hl := h.Cells.len
  have hL : Ev (fun n => qbz l n ([] : List ByteArray) 0) (bif allN (fun j => cellB (gt l.Cells j)) l.Cells.length then .nxt (l.Cells.map qD.Name, (l.Cells.length : Int)) else .ret false) := by
    refine loopN (Lf := qbz l) (S := fun j => (l.Cells.take j).map qD.Name) (fun j => cellB (gt l.Cells j)) (fun n => ?_) (fun j hj hp X hX => ?_)
    · simp only [qbz, qt (Nat.le_refl _), cond_false, List.take_length]
    · simp only [qbz, qq hj, cond_true, qam hj, Option.bind_some, qin hj hl, qfN (g := qD.Name) hj, qm (show j < 9223372036854775807 by omega)]
      exact Ev.chk1 (qoP (qiX h.Cells hj)) hX
  unfold qfo libB
  rw [qhr]
  refine Ev.bind hL ?_
  cases allN (fun j => cellB (gt l.Cells j)) l.Cells.length
  · exact .done
  · simp only [cond_true, Bool.true_and, show decide ((l.Cells.length : Int) ≤ 8) = decide (l.Cells.length ≤ 8) from qjo (k := 8)]
    exact Ev.andP fun _ => Ev.last (qhp (qjv h.Cells (fun x hx => hx.Name)))
end Go.Fw


namespace Go.Fw
open Go
set_option maxRecDepth 100000

theorem qnR {c : qD} (h : cellB c = true) : nameB c.Name = true := by
  unfold cellB at h; rw [Bool.and_eq_true] at h; exact h.1
theorem qlA {c : qD} (h : cellB c = true) : pinsB c.Pins = true := by
  unfold cellB at h; simp only [Bool.and_eq_true] at h; exact h.2.1

theorem qmf {l : qv} (h : qf9 l) : Ev (fun n => qfj n l) (libB l) := by
  have hl := h.Cells.len
  have hL2 : ∀ j, j < l.Cells.length → Ev (fun n => qb5 l (j : Int) n 0) (bif allN (neB (l.Cells.map qD.Name) j) j then .nxt (j : Int) else .ret false) := by
    intro j hj
    refine qe1 ?_ (fun i hi X hX => Ev.succ ?_)
    · exact Ev.succ (by simp only [qb5, qt (Nat.le_refl _), cond_false]; exact .done)
    · simp only [qb5, qq hi, cond_true, qam (show i < l.Cells.length by omega), qam hj, Option.bind_some, qfY, qm (show i < 9223372036854775807 by omega)]
      unfold neB
      rw [qhG (g := qD.Name) (show i < l.Cells.length by omega), qhG (g := qD.Name) hj]
      exact Ev.chkP1 (fun _ => hX)
  have hL1 : Ev (fun n => qb3 l n 0) (bif allN (fun j => cellB (gt l.Cells j) && allN (neB (l.Cells.map qD.Name) j) j) l.Cells.length then .nxt (l.Cells.length : Int) else .ret false) := by
    refine qe1 ?_ (fun j hj X hX => Ev.succ ?_)
    · exact Ev.succ (by simp only [qb3, qt (Nat.le_refl _), cond_false]; exact .done)
    · simp only [qb3, qq hj, cond_true, qam hj, Option.bind_some, qm (show j < 9223372036854775807 by omega)]
      refine Ev.chk (qnQ (qiX h.Cells hj)) fun _ => Ev.bind (hL2 j hj) ?_
      cases allN (neB (l.Cells.map qD.Name) j) j
      · exact .done
      · exact hX
  have e : libB l = (allN (fun j => cellB (gt l.Cells j) && allN (neB (l.Cells.map qD.Name) j) j) l.Cells.length && decide (l.Cells.length ≤ 8)) := by
    unfold libB namesB
    rw [qhr, List.length_map, Bool.and_comm (decide (l.Cells.length ≤ 8)), ← Bool.and_assoc, ← qjf]
    congr 1
    refine qgb (fun j hj => ?_)
    rw [qhG (g := qD.Name) hj]
    cases hc : cellB (gt l.Cells j)
    · rfl
    · rw [qnR hc]; rfl
  rw [e]
  unfold qfj
  refine Ev.bind hL1 ?_
  cases allN (fun j => cellB (gt l.Cells j) && allN (neB (l.Cells.map qD.Name) j) j) l.Cells.length
  · exact .done
  · refine Ev.now ?_
    show some (decide ((l.Cells.length : Int) ≤ ((8 : Nat) : Int))) = some (true && decide (l.Cells.length ≤ 8))
    rw [qjo, Bool.true_and]

theorem qiv {c c' : Nat → Nat} {m : Nat} {x : Int} (h0 : 0 ≤ x) (h1 : x < m) (hc : c x.toNat < 9223372036854775807) (he : ∀ k, k < m → c' k = c k + (bif x == (k : Int) then 1 else 0)) :
    idx (vecC c m) x = some (c x.toNat : Int) ∧ setS (vecC c m) x (W64 ((c x.toNat : Int) + 1)) = vecC c' m := by
  have ex : x = (x.toNat : Int) := qlK h0
  have e1 := qhL (c := c) (m := m) (k := x.toNat) (by omega)
  have e2 := qmh (c := c) (m := m) (k := x.toNat) hc
  rw [← ex] at e1 e2
  refine ⟨e1, e2.trans (qhV (fun k hk => ?_))⟩
  rw [he k hk]
  congr 2
  rw [Bool.eq_iff_iff]; simp; omega

/-! ### Parts of a design -/

def netB (d : qj) (x : Int) : Bool := inI x 0 ((d.Nets.length : Int) - 1)
theorem qnu {n : Nat} {d : qj} {x : Int} (hl : d.Nets.length ≤ 1048576) : qcE n d x = some (netB d x) := by
  simp only [qcE, qeV, Option.bind_some, qd5, qdh (show d.Nets.length ≤ 9223372036854775807 by omega)]; rfl
theorem qmw {n : Nat} {d : qj} {x : Int} (hl : d.Nets.length ≤ 1048576) : qaq n x 0 (W64 ((d.Nets.length : Int) - 1)) = some (netB d x) := by
  rw [qeI, qdh (show d.Nets.length ≤ 9223372036854775807 by omega)]; rfl

def hasNamesB (d : qj) : Bool := (decide (d.Instances.length ≤ 14) && (decide (d.Nets.length ≤ 30) && decide (d.Ports.length ≤ 8))) && (namesB (d.Instances.map qn.Name) && (namesB d.Nets && namesB (d.Ports.map qak.Name)))

theorem qnn {d : qj} (h : qhE d) : Ev (fun n => qdg n d) (hasNamesB d) := by
  have hli := h.Instances.len
  have hlp := h.Ports.len
  have hL1 : Ev (fun n => qaI d n ([] : List ByteArray) 0) (d.Instances.map qn.Name, (d.Instances.length : Int)) := by
    refine loopF (Lf := qaI d) (S := fun j => (d.Instances.take j).map qn.Name) (len := d.Instances.length) (fun n => ?_) (fun j hj X hX => ?_)
    · simp only [qaI, qt (Nat.le_refl _), cond_false, List.take_length]
    · simpa only [qaI, qq hj, cond_true, qam hj, Option.bind_some, qin hj hli, qfN (g := qn.Name) hj, qm (show j < 9223372036854775807 by omega)] using hX
  have hL2 : Ev (fun n => qaG d n ([] : List ByteArray) 0) (d.Ports.map qak.Name, (d.Ports.length : Int)) := by
    refine loopF (Lf := qaG d) (S := fun j => (d.Ports.take j).map qak.Name) (len := d.Ports.length) (fun n => ?_) (fun j hj X hX => ?_)
    · simp only [qaG, qt (Nat.le_refl _), cond_false, List.take_length]
    · simpa only [qaG, qq hj, cond_true, qam hj, Option.bind_some, qin hj hlp, qfN (g := qak.Name) hj, qm (show j < 9223372036854775807 by omega)] using hX
  unfold qdg hasNamesB
  refine Ev.bind hL1 (Ev.bind hL2 ?_)
  simp only [List.length_map]
  rw [show decide ((d.Instances.length : Int) ≤ 14) = decide (d.Instances.length ≤ 14) from qjo (k := 14), show decide ((d.Nets.length : Int) ≤ 30) = decide (d.Nets.length ≤ 30) from qjo (k := 30), show decide ((d.Ports.length : Int) ≤ 8) = decide (d.Ports.length ≤ 8) from qjo (k := 8)]
  rw [Bool.and_assoc, Bool.and_assoc]
  exact Ev.andP fun _ => Ev.andP fun _ => Ev.andP fun _ => Ev.and (qhp (qjv h.Instances (fun x hx => hx.Name))) fun _ => Ev.and (qhp h.Nets) fun _ => Ev.last (qhp (qjv h.Ports (fun x hx => hx.Name)))

def instB (l : qv) (d : qj) (x : qn) : Bool := inI x.Cell 0 ((l.Cells.length : Int) - 1) && (((x.Nets.length : Int) == ((gt l.Cells x.Cell.toNat).Pins.length : Int)) && x.Nets.all (netB d))

theorem qma {d : qj} {l : qv} {x : qn} (hn : d.Nets.length ≤ 1048576) (hc : l.Cells.length ≤ 1048576) (hx : x.Nets.length ≤ 1048576) : Ev (fun n => qcL n d l x) (instB l d x) := by
  simp only [qcL, qd0, Option.bind_some, qd5, qdh (show l.Cells.length ≤ 9223372036854775807 by omega)]
  unfold instB
  refine Ev.andP fun hI => ?_
  rw [qc1] at hI
  rw [qfk hI.1 (by omega)]
  simp only [Option.bind_some]
  refine Ev.andP fun _ => Ev.bind (b := x.Nets.any fun y => !netB d y) ?_ (Ev.now (by rw [qlj]))
  unfold qar
  exact Ev.bind (b := ixL (fun y => !netB d y) x.Nets) (qe3 (fin := (x.Nets.length : Int)) (Lf := qI x.Nets d) (pf := fun n y => qb8 n y d) (fun y _ => ⟨0, fun n _ => by simp only [qb8, qnu hn, Option.bind_some]⟩)
      (fun n => by simp only [qI, qt (Nat.le_refl _), cond_false])
      (fun n j y hx => by
        have hj := (List.getElem?_eq_some_iff.1 hx).1
        simp only [qI, qq hj, cond_true, qaU hx, Option.bind_some, qm (show j < 9223372036854775807 by omega)])
      (fun n => by unfold qaz; congr 1; funext o; cases o <;> rfl)) (Ev.now (by rw [qi8]))

def portB (d : qj) (p : qak) : Bool := inI p.Dir 1 2 && netB d p.Net
theorem qq2 {x : Int} : inI x 1 2 = ((x == 1) || (x == 2)) := by
  unfold inI; rw [Bool.eq_iff_iff]; simp; omega

/-- The net that an instance drives. -/
def lastN (x : qn) : Int := at0 x.Nets (x.Nets.length - 1)
theorem qnt {x : qn} (h1 : 1 ≤ x.Nets.length) (h2 : x.Nets.length ≤ 1048576) : idx x.Nets (W64 ((x.Nets.length : Int) - 1)) = some (lastN x) := by
  rw [qdh (by omega), show ((x.Nets.length : Int) - 1) = ((x.Nets.length - 1 : Nat) : Int) by omega, qdp (by omega)]; rfl
theorem qoS {d : qj} {x : qn} (h1 : 1 ≤ x.Nets.length) (h : x.Nets.all (netB d) = true) : 0 ≤ lastN x ∧ lastN x < d.Nets.length := by
  rw [qhf (d := 0), qa8] at h
  have := h (x.Nets.length - 1) (by omega)
  unfold netB at this
  rw [qc1] at this
  unfold lastN at0
  omega
theorem qlL {l : qv} {d : qj} {x : qn} (hl : libB l = true) (h : instB l d x = true) : 1 ≤ x.Nets.length ∧ 0 ≤ lastN x ∧ lastN x < d.Nets.length := by
  unfold instB at h
  simp only [Bool.and_eq_true, qc1, beq_iff_eq] at h
  obtain ⟨h1, h2, h3⟩ := h
  unfold libB at hl
  simp only [Bool.and_eq_true] at hl
  have hc := hl.1
  rw [qhr, qa8] at hc
  have := qhN (qlA (hc x.Cell.toNat (by omega)))
  have h4 : 1 ≤ x.Nets.length := by omega
  exact ⟨h4, qoS h4 h3⟩

def drvI (d : qj) (k j : Nat) : Nat := cntP (fun i => lastN (gt d.Instances i) == (k : Int)) j
def drvP (d : qj) (k j : Nat) : Nat := cntP (fun i => ((gt d.Ports i).Dir == 1) && ((gt d.Ports i).Net == (k : Int))) j
def drvB (d : qj) : Bool := allN (fun k => ((drvI d k d.Instances.length + drvP d k d.Ports.length : Nat) : Int) == 1) d.Nets.length
def designB (l : qv) (d : qj) : Bool := (libB l && hasNamesB d) && (d.Instances.all (instB l d) && (d.Ports.all (portB d) && drvB d))

theorem qkq {d : qj} {k j : Nat} : drvI d k (j + 1) = drvI d k j + (bif lastN (gt d.Instances j) == (k : Int) then 1 else 0) := rfl
theorem qjq {d : qj} {k j : Nat} : drvP d k (j + 1) = drvP d k j + (bif ((gt d.Ports j).Dir == 1) && ((gt d.Ports j).Net == (k : Int)) then 1 else 0) := rfl

theorem qm6 {l : qv} {d : qj} (h : qf9 l) (hd : qhE d) : Ev (fun n => qfZ n l d) (designB l d) := by
  have hli := hd.Instances.len
  have hlp := hd.Ports.len
  have hln := hd.Nets.len
  have hlc := h.Cells.len
  unfold qfZ designB
  refine Ev.guardB (Ev.or (qmT h) fun _ => Ev.neg (qnn hd)) fun hb => ?_
  rw [Bool.and_eq_true] at hb
  rw [qju (m := d.Nets.length) (by omega)]
  simp only [Option.bind_some]
  have hL1 : Ev (fun n => qb0 l d n (vecC (fun _ => 0) d.Nets.length) 0) (bif allN (fun j => instB l d (gt d.Instances j)) d.Instances.length then .nxt (vecC (fun k => drvI d k d.Instances.length) d.Nets.length, (d.Instances.length : Int)) else .ret false) := by
    refine loopN (Lf := qb0 l d) (S := fun j => vecC (fun k => drvI d k j) d.Nets.length) (fun j => instB l d (gt d.Instances j)) (fun n => ?_) (fun j hj hp X hX => ?_)
    · simp only [qb0, qt (Nat.le_refl _), cond_false]
    · simp only [qb0, qq hj, cond_true, qam hj, Option.bind_some, qm (show j < 9223372036854775807 by omega)]
      have hxl := (qiX hd.Instances hj).Nets.len
      refine Ev.chk1 (qma hln hlc hxl) fun hi => ?_
      obtain ⟨h1, h2, h3⟩ := qlL hb.1 hi
      have hc : drvI d (lastN (gt d.Instances j)).toNat j ≤ j := qd9
      obtain ⟨e1, e2⟩ := qiv (c := fun k => drvI d k j) (c' := fun k => drvI d k (j + 1)) h2 h3 (by show drvI _ _ _ < _; omega) (fun k _ => qkq)
      simp only [qnt h1 hxl, Option.bind_some, e1, e2]
      exact hX hi
  have hL2 : Ev (fun n => qbq d n (vecC (fun k => drvI d k d.Instances.length) d.Nets.length) 0) (bif allN (fun j => portB d (gt d.Ports j)) d.Ports.length then .nxt (vecC (fun k => drvI d k d.Instances.length + drvP d k d.Ports.length) d.Nets.length, (d.Ports.length : Int)) else .ret false) := by
    refine loopN (Lf := qbq d) (S := fun j => vecC (fun k => drvI d k d.Instances.length + drvP d k j) d.Nets.length) (fun j => portB d (gt d.Ports j)) (fun n => ?_) (fun j hj hp X hX => ?_)
    · simp only [qbq, qt (Nat.le_refl _), cond_false]
    · simp only [qbq, qq hj, cond_true, qam hj, Option.bind_some, qnu hln, bne, qm (show j < 9223372036854775807 by omega)]
      refine Ev.chkT1 ?_ fun hi => ?_
      · unfold portB
        rw [qq2]
        cases ((gt d.Ports j).Dir == 1) <;> cases ((gt d.Ports j).Dir == 2) <;> exact .done
      · have hX := hX hi
        unfold portB netB at hi
        simp only [Bool.and_eq_true, qc1] at hi
        have hc1 : drvI d (gt d.Ports j).Net.toNat d.Instances.length ≤ d.Instances.length := qd9
        have hc2 : drvP d (gt d.Ports j).Net.toNat j ≤ j := qd9
        cases h1 : ((gt d.Ports j).Dir == 1)
        · have : vecC (fun k => drvI d k d.Instances.length + drvP d k (j + 1)) d.Nets.length = vecC (fun k => drvI d k d.Instances.length + drvP d k j) d.Nets.length := by
            refine qhV (fun k _ => ?_)
            rw [qjq, h1]; rfl
          rw [this] at hX
          exact hX
        · obtain ⟨e1, e2⟩ := qiv (c := fun k => drvI d k d.Instances.length + drvP d k j) (c' := fun k => drvI d k d.Instances.length + drvP d k (j + 1)) (x := (gt d.Ports j).Net) (m := d.Nets.length) hi.2.1 (by omega) (by show drvI _ _ _ + drvP _ _ _ < _; omega) (fun k _ => by rw [qjq, h1, Bool.true_and]; omega)
          simp only [cond_true, Option.bind_some, e1, e2]
          exact hX
  rw [qhr, qhr]
  refine Ev.bind hL1 ?_
  cases allN (fun j => instB l d (gt d.Instances j)) d.Instances.length
  · exact .done
  · refine Ev.bind hL2 ?_
    cases allN (fun j => portB d (gt d.Ports j)) d.Ports.length
    · exact .done
    · simp only [cond_true, Bool.true_and]
      unfold qa5
      refine Ev.bind (b := (vecC (fun k => drvI d k d.Instances.length + drvP d k d.Ports.length) d.Nets.length).any fun x => !(x == 1)) (Ev.bind (b := ixL (fun x => !(x == 1)) (vecC (fun k => drvI d k d.Instances.length + drvP d k d.Ports.length) d.Nets.length)) (qe3 (fin := (((vecC (fun k => drvI d k d.Instances.length + drvP d k d.Ports.length) d.Nets.length).length : Nat) : Int)) (Lf := qR (vecC (fun k => drvI d k d.Instances.length + drvP d k d.Ports.length) d.Nets.length)) (pf := fun n y => qf4 n y) (fun y _ => .done)
        (fun n => by simp only [qR, qt (Nat.le_refl _), cond_false])
        (fun n j y hx => by
          have hj := (List.getElem?_eq_some_iff.1 hx).1
          have : j < d.Nets.length := by rw [qiV] at hj; exact hj
          simp only [qR, qq hj, cond_true, qaU hx, Option.bind_some, qm (show j < 9223372036854775807 by omega)])
        (fun n => by unfold qbe; congr 1; funext o; cases o <;> rfl)) (Ev.now (by rw [qi8]))) (Ev.now ?_)
      rw [qlj, qhf (d := 0), qiV]
      unfold drvB
      congr 1
      exact qgb (fun k hk => by
        have := qnF (c := fun k => drvI d k d.Instances.length + drvP d k d.Ports.length) hk
        unfold at0 at this
        rw [this])

theorem qm5 {l : qv} {d : qj} (h : qf9 l) (hd : qhE d) : Ev (fun n => qf2 n l d) (d.Instances.all (instB l d) && d.Ports.all (portB d)) := by
  have hli := hd.Instances.len
  have hlp := hd.Ports.len
  have hln := hd.Nets.len
  have hlc := h.Cells.len
  have hL2 : ∀ x : qn, x.Nets.length ≤ 1048576 → Ev (fun n => qcl d x n 0) (bif x.Nets.all (netB d) then .nxt (x.Nets.length : Int) else .ret false) := fun x hx =>
    qji (fun n => by simp only [qcl, qt (Nat.le_refl _), cond_false]) (fun j hj X hX => by
      simp only [qcl, qq hj, cond_true, qf8 hj, Option.bind_some, qmw hln, qm (show j < 9223372036854775807 by omega), qcO]
      exact Ev.okP1 fun _ => hX)
  have hL1 : Ev (fun n => qcu l d n 0) (bif allN (fun j => instB l d (gt d.Instances j)) d.Instances.length then .nxt (d.Instances.length : Int) else .ret false) := by
    refine qe1 ?_ (fun j hj X hX => Ev.succ ?_)
    · exact Ev.succ (by simp only [qcu, qt (Nat.le_refl _), cond_false]; exact .done)
    · simp only [qcu, qq hj, cond_true, qam hj, Option.bind_some, qeI, qdh (show l.Cells.length ≤ 9223372036854775807 by omega), qm (show j < 9223372036854775807 by omega), bne]
      have hxl := (qiX hd.Instances hj).Nets.len
      unfold instB
      rw [← Bool.and_assoc]
      refine Ev.chkT ?_ fun _ => Ev.bind (hL2 _ hxl) ?_
      · simp only [qcO]
        refine Ev.orBP fun hI => ?_
        rw [qc1] at hI
        rw [qfk hI.1 (by omega)]
        exact .done
      · cases (gt d.Instances j).Nets.all (netB d)
        · exact .done
        · exact hX
  have hL3 : Ev (fun n => qcm d n 0) (bif allN (fun j => portB d (gt d.Ports j)) d.Ports.length then .nxt (d.Ports.length : Int) else .ret false) := by
    refine qe1 ?_ (fun j hj X hX => Ev.succ ?_)
    · exact Ev.succ (by simp only [qcm, qt (Nat.le_refl _), cond_false]; exact .done)
    · simp only [qcm, qq hj, cond_true, qam hj, Option.bind_some, qmw hln, qm (show j < 9223372036854775807 by omega)]
      simp only [qeI, Option.bind_some, qcO]
      unfold portB
      exact Ev.okP fun _ => Ev.okP1 fun _ => hX
  unfold qf2
  rw [qhr, qhr]
  refine Ev.bind hL1 ?_
  cases allN (fun j => instB l d (gt d.Instances j)) d.Instances.length
  · exact .done
  · refine Ev.bind hL3 ?_
    cases allN (fun j => portB d (gt d.Ports j)) d.Ports.length <;> exact .done

theorem qka {l : qv} {d : qj} (h : qf9 l) (hd : qhE d) : Ev (fun n => qfc n l d) (designB l d) := by
  have hli := hd.Instances.len
  have hlp := hd.Ports.len
  have hln := hd.Nets.len
  have hlc := h.Cells.len
  have e : designB l d = ((libB l && (decide (d.Instances.length ≤ 14) && (decide (d.Nets.length ≤ 30) && (decide (d.Ports.length ≤ 8) && (d.Instances.all (instB l d) && d.Ports.all (portB d)))))) && ((namesB (d.Instances.map qn.Name) && (namesB (d.Ports.map qak.Name) && namesB d.Nets)) && drvB d)) := by
    unfold designB hasNamesB
    generalize libB l = a1
    generalize decide (d.Instances.length ≤ 14) = a2
    generalize decide (d.Nets.length ≤ 30) = a3
    generalize decide (d.Ports.length ≤ 8) = a4
    generalize d.Instances.all (instB l d) = a5
    generalize d.Ports.all (portB d) = a6
    generalize namesB (d.Instances.map qn.Name) = a7
    generalize namesB (d.Ports.map qak.Name) = a8
    generalize namesB d.Nets = a9
    generalize drvB d = a10
    rw [Bool.eq_iff_iff]
    simp only [Bool.and_eq_true]
    constructor
    · rintro ⟨⟨h1, ⟨h2, h3, h4⟩, h7, h9, h8⟩, h5, h6, h10⟩
      exact ⟨⟨h1, h2, h3, h4, h5, h6⟩, ⟨h7, h8, h9⟩, h10⟩
    · rintro ⟨⟨h1, h2, h3, h4, h5, h6⟩, ⟨h7, h8, h9⟩, h10⟩
      exact ⟨⟨h1, ⟨h2, h3, h4⟩, h7, h9, h8⟩, h5, h6, h10⟩
  rw [e]
  unfold qfc
  refine Ev.guardB ?_ fun hb => ?_
  · refine Ev.or (qmf h) fun _ => ?_
    rw [show decide ((d.Instances.length : Int) > 14) = !decide (d.Instances.length ≤ 14) by rw [Bool.eq_iff_iff]; simp; omega, show decide ((d.Nets.length : Int) > 30) = !decide (d.Nets.length ≤ 30) by rw [Bool.eq_iff_iff]; simp; omega, show decide ((d.Ports.length : Int) > 8) = !decide (d.Ports.length ≤ 8) by rw [Bool.eq_iff_iff]; simp; omega]
    simp only [qcO]
    exact Ev.orBP fun _ => Ev.orBP fun _ => Ev.orBP fun _ => Ev.neg (qm5 h hd)
  · simp only [Bool.and_eq_true] at hb
    obtain ⟨hlib, _, _, _, hI, hP⟩ := hb
    rw [qhr, qa8] at hI hP
    have hL1 : Ev (fun n => qbX d n ([] : List ByteArray) 0) (d.Instances.map qn.Name, (d.Instances.length : Int)) := by
      refine loopF (Lf := qbX d) (S := fun j => (d.Instances.take j).map qn.Name) (len := d.Instances.length) (fun n => ?_) (fun j hj X hX => ?_)
      · simp only [qbX, qt (Nat.le_refl _), cond_false, List.take_length]
      · simpa only [qbX, qq hj, cond_true, qam hj, Option.bind_some, qin hj hli, qfN (g := qn.Name) hj, qm (show j < 9223372036854775807 by omega)] using hX
    have hL2 : Ev (fun n => qbV d n ([] : List ByteArray) 0) (d.Ports.map qak.Name, (d.Ports.length : Int)) := by
      refine loopF (Lf := qbV d) (S := fun j => (d.Ports.take j).map qak.Name) (len := d.Ports.length) (fun n => ?_) (fun j hj X hX => ?_)
      · simp only [qbV, qt (Nat.le_refl _), cond_false, List.take_length]
      · simpa only [qbV, qq hj, cond_true, qam hj, Option.bind_some, qin hj hlp, qfN (g := qak.Name) hj, qm (show j < 9223372036854775807 by omega)] using hX
    have hL3 : Ev (fun n => qbZ d n (vecC (fun _ => 0) d.Nets.length) 0) (vecC (fun k => drvI d k d.Instances.length) d.Nets.length, (d.Instances.length : Int)) := by
      refine loopF (Lf := qbZ d) (S := fun j => vecC (fun k => drvI d k j) d.Nets.length) (len := d.Instances.length) (fun n => ?_) (fun j hj X hX => ?_)
      · simp only [qbZ, qt (Nat.le_refl _), cond_false]
      · have hxl := (qiX hd.Instances hj).Nets.len
        obtain ⟨h1, h2, h3⟩ := qlL hlib (hI j hj)
        have hc : drvI d (lastN (gt d.Instances j)).toNat j ≤ j := qd9
        obtain ⟨e1, e2⟩ := qiv (c := fun k => drvI d k j) (c' := fun k => drvI d k (j + 1)) h2 h3 (by show drvI _ _ _ < _; omega) (fun k _ => qkq)
        simpa only [qbZ, qq hj, cond_true, qam hj, Option.bind_some, qm (show j < 9223372036854775807 by omega), qnt h1 hxl, e1, e2] using hX
    have hL4 : Ev (fun n => qbm d n (vecC (fun k => drvI d k d.Instances.length) d.Nets.length) 0) (vecC (fun k => drvI d k d.Instances.length + drvP d k d.Ports.length) d.Nets.length, (d.Ports.length : Int)) := by
      refine loopF (Lf := qbm d) (S := fun j => vecC (fun k => drvI d k d.Instances.length + drvP d k j) d.Nets.length) (len := d.Ports.length) (fun n => ?_) (fun j hj X hX => ?_)
      · simp only [qbm, qt (Nat.le_refl _), cond_false]
      · have hi := hP j hj
        unfold portB netB at hi
        simp only [Bool.and_eq_true, qc1] at hi
        have hc1 : drvI d (gt d.Ports j).Net.toNat d.Instances.length ≤ d.Instances.length := qd9
        have hc2 : drvP d (gt d.Ports j).Net.toNat j ≤ j := qd9
        simp only [qbm, qq hj, cond_true, qam hj, Option.bind_some, qm (show j < 9223372036854775807 by omega)]
        cases h1 : ((gt d.Ports j).Dir == 1)
        · have : vecC (fun k => drvI d k d.Instances.length + drvP d k (j + 1)) d.Nets.length = vecC (fun k => drvI d k d.Instances.length + drvP d k j) d.Nets.length := by
            refine qhV (fun k _ => ?_)
            rw [qjq, h1]; rfl
          rw [this] at hX
          exact hX
        · obtain ⟨e1, e2⟩ := qiv (c := fun k => drvI d k d.Instances.length + drvP d k j) (c' := fun k => drvI d k d.Instances.length + drvP d k (j + 1)) (x := (gt d.Ports j).Net) (m := d.Nets.length) hi.2.1 (by omega) (by show drvI _ _ _ + drvP _ _ _ < _; omega) (fun k _ => by rw [qjq, h1, Bool.true_and]; omega)
          simp only [cond_true, Option.bind_some, e1, e2]
          exact hX
    have hL5 : Ev (fun n => qcv (vecC (fun _ => 0) d.Nets.length) (vecC (fun k => drvI d k d.Instances.length + drvP d k d.Ports.length) d.Nets.length) n 0) (bif drvB d then .nxt (d.Nets.length : Int) else .ret false) := by
      refine qe1 ?_ (fun j hj X hX => Ev.succ ?_)
      · exact Ev.succ (by simp only [qcv, qiV, qt (Nat.le_refl _), cond_false]; exact .done)
      · simp only [qcv, qiV, qq hj, cond_true, qhL hj, Option.bind_some, bne, qcO, qm (show j < 9223372036854775807 by omega)]
        exact Ev.okP1 fun _ => hX
    refine Ev.bind hL1 (Ev.bind hL2 ?_)
    refine Ev.guardB (Ev.or (qi5 (qjv hd.Instances (fun x hx => hx.Name))) fun _ => Ev.or (qi5 (qjv hd.Ports (fun x hx => hx.Name))) fun _ => Ev.neg (qi5 hd.Nets)) fun _ => ?_
    rw [qju (m := d.Nets.length) (by omega)]
    simp only [Option.bind_some]
    refine Ev.bind hL3 (Ev.bind hL4 (Ev.bind hL5 ?_))
    cases drvB d <;> exact .done
end Go.Fw


namespace Go.Fw
open Go
set_option maxRecDepth 100000

theorem qqr {m k : Nat} : decide ((m : Int) < (k : Int)) = !decide (k ≤ m) := by rw [Bool.eq_iff_iff]; simp
theorem qqD {m k : Nat} : decide ((m : Int) > (k : Int)) = !decide (m ≤ k) := by rw [Bool.eq_iff_iff]; simp
/-! ### Wires -/

def treeB (w : qaa) (j : Nat) : Bool := bif decide (j = 0) then (at0 w.Parent j == -1) && (at0 w.Res j == 0) else inI (at0 w.Parent j) 0 ((j : Int) - 1)
def wireB (w : qaa) (s : Int) : Bool :=
  lenB w.Parent 1 8 && (((w.Res.length : Int) == (w.Parent.length : Int)) && (((w.Cap.length : Int) == (w.Parent.length : Int)) && (allN (treeB w) w.Parent.length &&
    ((w.Res.all fun x => inI x 0 1000) && ((w.Cap.all fun x => inI x 0 500) && (((w.Sink.length : Int) == s) && (w.Sink.all fun x => inI x 0 ((w.Parent.length : Int) - 1))))))))

theorem qpi {w : qaa} (hl : w.Parent.length ≤ 1048576) (hr : ((w.Res.length : Int) == (w.Parent.length : Int)) = true) : Ev (fun n => qeD n w) (allN (treeB w) w.Parent.length) := by
  rw [beq_iff_eq] at hr
  have hL : Ev (fun n => qaM w n 0) (bif allN (treeB w) w.Parent.length then .nxt (w.Parent.length : Int) else .ret false) := by
    refine qe1 ?_ (fun j hj X hX => Ev.succ ?_)
    · exact Ev.succ (by simp only [qaM, qt (Nat.le_refl _), cond_false]; exact .done)
    · simp only [qaM, qq hj, cond_true, qdp hj, Option.bind_some, qd5, qm (show j < 9223372036854775807 by omega), bne, qcO]
      unfold treeB
      by_cases h0 : j = 0
      · subst h0
        rw [show idx w.Res (0 : Int) = some (at0 w.Res 0) from qdp (j := 0) (by omega)]
        simp only [Option.bind_some]
        refine Ev.tt (by simp) (Ev.okP fun _ => Ev.okP1 fun _ => Ev.ff (by simp) hX)
      · have e1 : decide (j = 0) = false := by simp; omega
        have e2 : ((j : Int) == 0) = false := by simp; omega
        have e3 : decide ((j : Int) > 0) = true := by simp; omega
        rw [e1, e2, e3, qdh (show j ≤ 9223372036854775807 by omega)]
        simp only [cond_false, cond_true]
        exact Ev.okP1 fun _ => hX
  unfold qeD
  refine Ev.bind hL ?_
  cases allN (treeB w) w.Parent.length <;> exact .done

theorem qoA {w : qaa} {s : Int} (h : qkb w) : Ev (fun n => qhc n w s) (wireB w s) := by
  have hl := h.Parent.len
  simp only [qhc, qa6, Option.bind_some, qd5, qdh (show w.Parent.length ≤ 9223372036854775807 by omega)]
  unfold wireB
  rw [show inI (w.Parent.length : Int) 1 8 = lenB w.Parent 1 8 from qmU (lo := 1) (hi := 8)]
  exact Ev.andP fun _ => Ev.andP fun hr => Ev.andP fun _ => Ev.and (qpi hl hr) fun _ => Ev.and (qfP h.Res.len) fun _ => Ev.and (qfP h.Cap.len) fun _ => Ev.andP fun _ => Ev.last (qfP h.Sink.len)

theorem qnL {w : qaa} {s : Int} (h : qkb w) : Ev (fun n => qhj n w s) (wireB w s) := by
  have hl := h.Parent.len
  have hsl := h.Sink.len
  have e : wireB w s = ((decide (1 ≤ w.Parent.length) && (decide (w.Parent.length ≤ 8) && (((w.Res.length : Int) == (w.Parent.length : Int)) && (((w.Cap.length : Int) == (w.Parent.length : Int)) && ((w.Sink.length : Int) == s))))) && (allN (fun j => (inI (at0 w.Cap j) 0 500 && inI (at0 w.Res j) 0 1000) && treeB w j) w.Parent.length && (w.Sink.all fun x => inI x 0 ((w.Parent.length : Int) - 1)))) := by
    unfold wireB lenB
    cases h1 : ((w.Res.length : Int) == (w.Parent.length : Int))
    · simp
    · cases h2 : ((w.Cap.length : Int) == (w.Parent.length : Int))
      · simp
      · rw [beq_iff_eq] at h1 h2
        rw [qjf, qjf]
        rw [qhf (p := fun x => inI x 0 1000) (d := 0), qhf (p := fun x => inI x 0 500) (d := 0), show w.Res.length = w.Parent.length by omega, show w.Cap.length = w.Parent.length by omega]
        show _ = (_ && ((allN (fun j => inI (w.Cap.getD j 0) 0 500) _ && allN (fun j => inI (w.Res.getD j 0) 0 1000) _ && _) && _))
        generalize allN (fun j => inI (w.Cap.getD j 0) 0 500) w.Parent.length = a1
        generalize allN (fun j => inI (w.Res.getD j 0) 0 1000) w.Parent.length = a2
        generalize allN (fun j => treeB w j) w.Parent.length = a3
        generalize ((w.Sink.length : Int) == s) = a4
        generalize decide (1 ≤ w.Parent.length) = a5
        generalize decide (w.Parent.length ≤ 8) = a6
        generalize (w.Sink.all fun x => inI x 0 ((w.Parent.length : Int) - 1)) = a7
        cases a1 <;> cases a2 <;> cases a3 <;> cases a4 <;> cases a5 <;> cases a6 <;> rfl
  rw [e]
  unfold qhj
  refine Ev.guardB ?_ fun hb => ?_
  · rw [show decide ((w.Parent.length : Int) < 1) = !decide (1 ≤ w.Parent.length) from qqr (k := 1), show decide ((w.Parent.length : Int) > 8) = !decide (w.Parent.length ≤ 8) from qqD (k := 8)]
    simp only [bne, qcO]
    exact Ev.orBP fun _ => Ev.orBP fun _ => Ev.orBP fun _ => Ev.orBP fun _ => .done
  · simp only [Bool.and_eq_true, beq_iff_eq] at hb
    have hL1 : Ev (fun n => qbG w n 0) (bif allN (fun j => (inI (at0 w.Cap j) 0 500 && inI (at0 w.Res j) 0 1000) && treeB w j) w.Parent.length then .nxt (w.Parent.length : Int) else .ret false) := by
      refine qe1 ?_ (fun j hj X hX => Ev.succ ?_)
      · exact Ev.succ (by simp only [qbG, qt (Nat.le_refl _), cond_false]; exact .done)
      · simp only [qbG, qq hj, cond_true, qdp hj, qdp (show j < w.Cap.length by omega), qdp (show j < w.Res.length by omega), Option.bind_some, qeI, qm (show j < 9223372036854775807 by omega), bne, qcO]
        refine Ev.chkT (Ev.orBP fun _ => .done) fun _ => ?_
        unfold treeB
        by_cases h0 : j = 0
        · subst h0
          refine Ev.tt (by simp) (Ev.okP fun _ => Ev.okP1 fun _ => Ev.ff (by simp) hX)
        · have e1 : decide (j = 0) = false := by simp; omega
          have e2 : ((j : Int) == 0) = false := by simp; omega
          have e3 : decide ((j : Int) > 0) = true := by simp; omega
          rw [e1, e2, e3, qdh (show j ≤ 9223372036854775807 by omega)]
          simp only [cond_false, cond_true]
          exact Ev.okP1 fun _ => hX
    have hL2 : Ev (fun n => qdd w n 0) (bif (w.Sink.all fun x => inI x 0 ((w.Parent.length : Int) - 1)) then .nxt (w.Sink.length : Int) else .ret false) :=
      qji (fun n => by simp only [qdd, qt (Nat.le_refl _), cond_false]) (fun j hj X hX => by
        simp only [qdd, qq hj, cond_true, qf8 hj, Option.bind_some, qeI, qdh (show w.Parent.length ≤ 9223372036854775807 by omega), qm (show j < 9223372036854775807 by omega), qcO]
        exact Ev.okP1 fun _ => hX)
    refine Ev.bind hL1 ?_
    cases allN (fun j => (inI (at0 w.Cap j) 0 500 && inI (at0 w.Res j) 0 1000) && treeB w j) w.Parent.length
    · exact .done
    · refine Ev.bind hL2 ?_
      cases (w.Sink.all fun x => inI x 0 ((w.Parent.length : Int) - 1)) <;> exact .done

/-! ### Places -/

instance : Inhabited Tplace := ⟨⟨0, 0, 0, false⟩⟩
instance : Inhabited Tl05Place := ⟨⟨0, 0, 0, false⟩⟩
def toSp (p : Tplace) : Tl05Place := ⟨p.instance_, p.pin, p.net, p.drives⟩
def plX (i : Nat) (x : qn) (j : Nat) : List Tplace := (List.range j).map fun (k : Nat) => ⟨(i : Int), (k : Int), at0 x.Nets k, decide (k + 1 = x.Nets.length)⟩
def plI (d : qj) (j : Nat) : List Tplace := (List.range j).flatMap fun (i : Nat) => plX i (gt d.Instances i) (gt d.Instances i).Nets.length
def plP (d : qj) (j : Nat) : List Tplace := (List.range j).map fun (i : Nat) => ⟨-1, (i : Int), (gt d.Ports i).Net, (gt d.Ports i).Dir == 1⟩
def places (d : qj) : List Tplace := plI d d.Instances.length ++ plP d d.Ports.length

theorem qnz {i : Nat} {x : qn} {j : Nat} : plX i x (j + 1) = plX i x j ++ [⟨(i : Int), (j : Int), at0 x.Nets j, decide (j + 1 = x.Nets.length)⟩] := by
  unfold plX; rw [List.range_succ, List.map_append]; rfl
theorem qi2 {d : qj} {j : Nat} : plI d (j + 1) = plI d j ++ plX j (gt d.Instances j) (gt d.Instances j).Nets.length := by
  unfold plI; rw [List.range_succ, List.flatMap_append]; simp
theorem qnw {d : qj} {j : Nat} : plP d (j + 1) = plP d j ++ [⟨-1, (j : Int), (gt d.Ports j).Net, (gt d.Ports j).Dir == 1⟩] := by
  unfold plP; rw [List.range_succ, List.map_append]; rfl
theorem qlg {i : Nat} {x : qn} {j : Nat} : (plX i x j).length = j := by simp [plX]
theorem qlf {d : qj} {j : Nat} : (plP d j).length = j := by simp [plP]

/-- What a valid design says of its sizes. -/
structure smallD (d : qj) : Prop where
  ni : d.Instances.length ≤ 14
  nn : d.Nets.length ≤ 30
  np : d.Ports.length ≤ 8
  nx : ∀ i, i < d.Instances.length → 2 ≤ (gt d.Instances i).Nets.length ∧ (gt d.Instances i).Nets.length ≤ 5

theorem qS {l : qv} {d : qj} (h : designB l d = true) : smallD d := by
  unfold designB hasNamesB libB at h
  simp only [Bool.and_eq_true, decide_eq_true_eq] at h
  obtain ⟨⟨⟨hc, _⟩, ⟨h1, h2, h3⟩, _⟩, hI, _⟩ := h
  refine ⟨h1, h2, h3, fun i hi => ?_⟩
  rw [qhr, qa8] at hI hc
  have := hI i hi
  unfold instB at this
  simp only [Bool.and_eq_true, qc1, beq_iff_eq] at this
  have h5 := qhN (qlA (hc (gt d.Instances i).Cell.toNat (by omega)))
  omega
theorem qkc {d : qj} (h : smallD d) {j : Nat} (hj : j ≤ d.Instances.length) : (plI d j).length ≤ 5 * j := by
  induction j with
  | zero => exact Nat.le_refl _
  | succ j ih =>
    rw [qi2, List.length_append, qlg]
    have := ih (by omega)
    have := h.nx j (by omega)
    omega
theorem qaA {d : qj} (h : smallD d) : (places d).length ≤ 78 := by
  unfold places
  rw [List.length_append, qlf]
  have := qkc h (Nat.le_refl _)
  have := h.ni
  have := h.np
  omega

theorem qjr {d : qj} (h : smallD d) : Ev (fun n => qbF n d) (places d) := by
  have h1 := h.ni
  have h2 := h.np
  have hL2 : ∀ i, i < d.Instances.length → ∀ pre : List Tplace, pre.length ≤ 100 → Ev (fun n => qaZ (i : Int) (gt d.Instances i) n pre 0) (pre ++ plX i (gt d.Instances i) (gt d.Instances i).Nets.length, ((gt d.Instances i).Nets.length : Int)) := by
    intro i hi pre hp
    have h5 := h.nx i hi
    have := loopF (Lf := qaZ (i : Int) (gt d.Instances i)) (S := fun j => pre ++ plX i (gt d.Instances i) j) (len := (gt d.Instances i).Nets.length) (fin := (pre ++ plX i (gt d.Instances i) (gt d.Instances i).Nets.length, ((gt d.Instances i).Nets.length : Int))) (fun n => by
        simp only [qaZ, qt (Nat.le_refl _), cond_false])
      (fun j hj X hX => by
        have hc : (pre ++ plX i (gt d.Instances i) j).length + [(⟨(i : Int), (j : Int), at0 (gt d.Instances i).Nets j, decide (j + 1 = (gt d.Instances i).Nets.length)⟩ : Tplace)].length ≤ 2147483648 := by
          rw [List.length_append, qlg]; simp; omega
        simp only [qaZ, qq hj, cond_true, qdp hj, Option.bind_some, lastE hj (show (gt d.Instances i).Nets.length ≤ 1048576 by omega), qc9 hc, List.append_assoc, ← qnz, qm (show j < 9223372036854775807 by omega)]
        exact hX)
    simpa [plX] using this
  have hL1 : Ev (fun n => qaY d n ([] : List Tplace) 0) (plI d d.Instances.length, (d.Instances.length : Int)) := by
    refine loopF (Lf := qaY d) (S := fun j => plI d j) (len := d.Instances.length) (fun n => ?_) (fun j hj X hX => ?_)
    · simp only [qaY, qt (Nat.le_refl _), cond_false]
    · simp only [qaY, qq hj, cond_true, qam hj, Option.bind_some, qm (show j < 9223372036854775807 by omega)]
      refine Ev.bind (hL2 j hj _ (by have := qkc h (Nat.le_of_lt hj); omega)) ?_
      rw [← qi2]
      exact hX
  have hL3 : Ev (fun n => qaX d n (plI d d.Instances.length) 0) (places d, (d.Ports.length : Int)) := by
    have := loopF (Lf := qaX d) (S := fun j => plI d d.Instances.length ++ plP d j) (len := d.Ports.length) (fin := (places d, (d.Ports.length : Int))) (fun n => by
        simp only [qaX, qt (Nat.le_refl _), cond_false]; rfl)
      (fun j hj X hX => by
        have hc : (plI d d.Instances.length ++ plP d j).length + [(⟨-1, (j : Int), (gt d.Ports j).Net, (gt d.Ports j).Dir == 1⟩ : Tplace)].length ≤ 2147483648 := by
          rw [List.length_append, qlf]; have := qkc h (Nat.le_refl _); simp; omega
        simp only [qaX, qq hj, cond_true, qam hj, Option.bind_some, qc9 hc, List.append_assoc, ← qnw, qm (show j < 9223372036854775807 by omega)]
        exact hX)
    simpa [plP] using this
  unfold qbF
  exact Ev.bind hL1 (Ev.bind hL3 .done)

theorem qhW {d : qj} (h : smallD d) : Ev (fun n => qcJ n d) ((places d).map toSp) := by
  have h1 := h.ni
  have h2 := h.np
  have hL2 : ∀ i, i < d.Instances.length → ∀ pre : List Tplace, pre.length ≤ 100 → Ev (fun n => qbA (i : Int) (gt d.Instances i) n (pre.map toSp) 0) ((pre ++ plX i (gt d.Instances i) (gt d.Instances i).Nets.length).map toSp, ((gt d.Instances i).Nets.length : Int)) := by
    intro i hi pre hp
    have h5 := h.nx i hi
    have := loopF (Lf := qbA (i : Int) (gt d.Instances i)) (S := fun j => (pre ++ plX i (gt d.Instances i) j).map toSp) (len := (gt d.Instances i).Nets.length) (fin := ((pre ++ plX i (gt d.Instances i) (gt d.Instances i).Nets.length).map toSp, ((gt d.Instances i).Nets.length : Int))) (fun n => by
        simp only [qbA, qt (Nat.le_refl _), cond_false])
      (fun j hj X hX => by
        have hc : ((pre ++ plX i (gt d.Instances i) j).map toSp).length + [(⟨(i : Int), (j : Int), at0 (gt d.Instances i).Nets j, decide (j + 1 = (gt d.Instances i).Nets.length)⟩ : Tl05Place)].length ≤ 2147483648 := by
          rw [List.length_map, List.length_append, qlg]; simp; omega
        simp only [qbA, qq hj, cond_true, qdp hj, Option.bind_some, lastE hj (show (gt d.Instances i).Nets.length ≤ 1048576 by omega), qc9 hc, qm (show j < 9223372036854775807 by omega)]
        rw [qnz, ← List.append_assoc, List.map_append] at hX
        exact hX)
    simpa [plX] using this
  have hL1 : Ev (fun n => qbB d n ([] : List Tl05Place) 0) ((plI d d.Instances.length).map toSp, (d.Instances.length : Int)) := by
    refine loopF (Lf := qbB d) (S := fun j => (plI d j).map toSp) (len := d.Instances.length) (fun n => ?_) (fun j hj X hX => ?_)
    · simp only [qbB, qt (Nat.le_refl _), cond_false]
    · simp only [qbB, qq hj, cond_true, qam hj, Option.bind_some, qm (show j < 9223372036854775807 by omega)]
      refine Ev.bind (hL2 j hj _ (by have := qkc h (Nat.le_of_lt hj); omega)) ?_
      rw [← qi2]
      exact hX
  have hL3 : Ev (fun n => qbE d n ((plI d d.Instances.length).map toSp) 0) ((places d).map toSp, (d.Ports.length : Int)) := by
    have := loopF (Lf := qbE d) (S := fun j => (plI d d.Instances.length ++ plP d j).map toSp) (len := d.Ports.length) (fin := ((places d).map toSp, (d.Ports.length : Int))) (fun n => by
        simp only [qbE, qt (Nat.le_refl _), cond_false]; rfl)
      (fun j hj X hX => by
        have hc : ((plI d d.Instances.length ++ plP d j).map toSp).length + [(⟨-1, (j : Int), (gt d.Ports j).Net, (gt d.Ports j).Dir == 1⟩ : Tl05Place)].length ≤ 2147483648 := by
          rw [List.length_map, List.length_append, qlf]; have := qkc h (Nat.le_refl _); simp; omega
        simp only [qbE, qq hj, cond_true, qam hj, Option.bind_some, qc9 hc, qm (show j < 9223372036854775807 by omega)]
        rw [qnw, ← List.append_assoc, List.map_append] at hX
        exact hX)
    simpa [plP] using this
  unfold qcJ
  exact Ev.bind hL1 (Ev.bind hL3 .done)

def snkQ (d : qj) (k : Int) (i : Nat) : Bool := ((gt (places d) i).net == k) && !(gt (places d) i).drives
def sinksL (d : qj) (k : Int) (j : Nat) : List Int := ((List.range j).filter (snkQ d k)).map fun (i : Nat) => (i : Int)
def snkN (d : qj) (k : Int) : Nat := cntP (snkQ d k) (places d).length
theorem qic {d : qj} {k : Int} {j : Nat} : sinksL d k (j + 1) = sinksL d k j ++ (bif snkQ d k j then [(j : Int)] else []) := by
  unfold sinksL
  rw [List.range_succ, List.filter_append, List.map_append]
  congr 1
  cases h : snkQ d k j <;> simp [h]
theorem qeS {d : qj} {k : Int} {j : Nat} : (sinksL d k j).length = cntP (snkQ d k) j := by
  induction j with
  | zero => rfl
  | succ j ih =>
    rw [qic, List.length_append, ih]
    show _ = cntP (snkQ d k) j + _
    congr 1
    cases snkQ d k j <;> rfl
theorem qku {α β : Type} [Inhabited α] [Inhabited β] {xs : List α} {g : α → β} {j : Nat} (h : j < xs.length) : gt (xs.map g) j = g (gt xs j) := by
  rw [qig (by simpa using h), qig h]; simp

theorem qkI {d : qj} {k : Int} (h : smallD d) : Ev (fun n => qfb n d k) (sinksL d k (places d).length) := by
  have hl := qaA h
  have hL : Ev (fun n => qbo k ((places d).map toSp) n ([] : List Int) 0) (sinksL d k (places d).length, ((places d).length : Int)) := by
    refine loopF (Lf := qbo k ((places d).map toSp)) (S := fun j => sinksL d k j) (len := (places d).length) (fun n => ?_) (fun j hj X hX => ?_)
    · simp only [qbo, List.length_map, qt (Nat.le_refl _), cond_false]
    · have hj' : j < ((places d).map toSp).length := by simpa using hj
      have hc : (sinksL d k j).length + [(j : Int)].length ≤ 2147483648 := by
        rw [qeS]
        have : cntP (snkQ d k) j ≤ j := qd9
        simp; omega
      simp only [qbo, qq hj', cond_true, qam hj', qku hj, Option.bind_some, qm (show j < 9223372036854775807 by omega)]
      rw [show ∀ p : Tplace, (toSp p).net = p.net from fun _ => rfl, show ∀ p : Tplace, (toSp p).drives = p.drives from fun _ => rfl]
      refine Ev.bind (b := snkQ d k j) (Ev.andP fun _ => .done) ?_
      rw [qic] at hX
      cases hq : snkQ d k j
      · rw [hq] at hX
        simp only [cond_false, List.append_nil] at hX ⊢
        exact hX
      · rw [hq] at hX
        simp only [cond_true, qc9 hc, Option.bind_some] at hX ⊢
        exact hX
  unfold qfb
  exact Ev.bind (qhW h) (Ev.bind hL .done)

theorem qiE {l : qv} {d : qj} (h : designB l d = true) {i : Nat} (hi : i < (places d).length) : 0 ≤ (gt (places d) i).net ∧ (gt (places d) i).net < d.Nets.length := by
  unfold designB at h
  simp only [Bool.and_eq_true] at h
  obtain ⟨_, hI, hP, _⟩ := h
  rw [qhr, qa8] at hI hP
  have hm : gt (places d) i ∈ places d := by rw [qig hi]; exact List.getElem_mem hi
  generalize gt (places d) i = p at hm
  unfold places at hm
  rcases List.mem_append.1 hm with hm | hm
  · unfold plI at hm
    obtain ⟨i, hi, hm⟩ := List.mem_flatMap.1 hm
    unfold plX at hm
    obtain ⟨k, hk, rfl⟩ := List.mem_map.1 hm
    have := hI i (List.mem_range.1 hi)
    unfold instB at this
    simp only [Bool.and_eq_true] at this
    have h3 := this.2.2
    rw [qhf (d := 0), qa8] at h3
    have h4 := h3 k (List.mem_range.1 hk)
    unfold netB at h4
    rw [qc1] at h4
    show 0 ≤ at0 _ _ ∧ at0 _ _ < _
    unfold at0
    omega
  · unfold plP at hm
    obtain ⟨i, hi, rfl⟩ := List.mem_map.1 hm
    have := hP i (List.mem_range.1 hi)
    unfold portB netB at this
    simp only [Bool.and_eq_true, qc1] at this
    show 0 ≤ (gt d.Ports i).Net ∧ (gt d.Ports i).Net < _
    omega

/-! ### Blocks -/

def blockB (b : ql) : Bool := (designB b.Library b.Design && ((b.Wires.length : Int) == (b.Design.Nets.length : Int))) && allN (fun j => wireB (gt b.Wires j) (snkN b.Design (j : Int))) b.Wires.length

theorem qiI {b : ql} (h : qep b) : Ev (fun n => qgt n b) (blockB b) := by
  have hwl := h.Wires.len
  unfold qgt blockB
  refine Ev.guardB (Ev.or (qm6 h.Library h.Design) fun _ => .done) fun hb => ?_
  rw [Bool.and_eq_true, beq_iff_eq] at hb
  obtain ⟨hd, hw⟩ := hb
  have hs := qS hd
  have hl := qaA hs
  have hn := hs.nn
  rw [qju (m := b.Wires.length) (by omega)]
  simp only [Option.bind_some]
  have hL1 : Ev (fun n => qbO (places b.Design) n (vecC (fun _ => 0) b.Wires.length) 0) (vecC (fun k => snkN b.Design (k : Int)) b.Wires.length, ((places b.Design).length : Int)) := by
    refine loopF (Lf := qbO (places b.Design)) (S := fun j => vecC (fun k => cntP (snkQ b.Design (k : Int)) j) b.Wires.length) (len := (places b.Design).length) (fun n => ?_) (fun j hj X hX => ?_)
    · simp only [qbO, qt (Nat.le_refl _), cond_false]; rfl
    · simp only [qbO, qq hj, cond_true, qam hj, Option.bind_some, qm (show j < 9223372036854775807 by omega)]
      obtain ⟨n0, n1⟩ := qiE hd hj
      cases h1 : (gt (places b.Design) j).drives
      · have hc : cntP (snkQ b.Design (((gt (places b.Design) j).net.toNat : Nat) : Int)) j ≤ j := qd9
        obtain ⟨e1, e2⟩ := qiv (c := fun k => cntP (snkQ b.Design (k : Int)) j) (c' := fun k => cntP (snkQ b.Design (k : Int)) (j + 1)) (x := (gt (places b.Design) j).net) (m := b.Wires.length) n0 (by omega) (by show cntP _ _ < _; omega) (fun k _ => by
          show cntP _ j + (bif snkQ b.Design (k : Int) j then 1 else 0) = _
          unfold snkQ
          rw [h1, Bool.not_false, Bool.and_true])
        simp only [Bool.not_false, cond_true, Option.bind_some, e1, e2]
        exact hX
      · have : vecC (fun k => cntP (snkQ b.Design (k : Int)) (j + 1)) b.Wires.length = vecC (fun k => cntP (snkQ b.Design (k : Int)) j) b.Wires.length := by
          refine qhV (fun k _ => ?_)
          show cntP _ j + (bif snkQ b.Design (k : Int) j then 1 else 0) = _
          unfold snkQ
          rw [h1, Bool.not_true, Bool.and_false]; rfl
        rw [this] at hX
        exact hX
  have hL2 : Ev (fun n => qcT b (vecC (fun k => snkN b.Design (k : Int)) b.Wires.length) n 0) (bif allN (fun j => wireB (gt b.Wires j) (snkN b.Design (j : Int))) b.Wires.length then .nxt (b.Wires.length : Int) else .ret false) := by
    refine qe1 ?_ (fun j hj X hX => Ev.succ ?_)
    · exact Ev.succ (by simp only [qcT, qt (Nat.le_refl _), cond_false]; exact .done)
    · simp only [qcT, qq hj, cond_true, qam hj, qhL hj, Option.bind_some, qm (show j < 9223372036854775807 by omega)]
      exact Ev.chk1 (qoA (qiX h.Wires hj)) fun _ => hX
  refine Ev.bind (qjr hs) (Ev.bind hL1 (Ev.bind hL2 ?_))
  cases allN (fun j => wireB (gt b.Wires j) (snkN b.Design (j : Int))) b.Wires.length <;> exact .done

theorem qkJ {b : ql} (h : qep b) : Ev (fun n => qfA n b) (blockB b) := by
  have hwl := h.Wires.len
  unfold qfA blockB
  refine Ev.guardB (Ev.or (qka h.Library h.Design) fun _ => .done) fun hb => ?_
  rw [Bool.and_eq_true] at hb
  have hs := qS hb.1
  have hL : Ev (fun n => qcS b n 0) (bif allN (fun j => wireB (gt b.Wires j) (snkN b.Design (j : Int))) b.Wires.length then .nxt (b.Wires.length : Int) else .ret false) := by
    refine qe1 ?_ (fun j hj X hX => Ev.succ ?_)
    · exact Ev.succ (by simp only [qcS, qt (Nat.le_refl _), cond_false]; exact .done)
    · simp only [qcS, qq hj, cond_true, qam hj, Option.bind_some, qm (show j < 9223372036854775807 by omega)]
      refine Ev.bind (qkI hs) ?_
      rw [qeS]
      exact Ev.chk1 (qnL (qiX h.Wires hj)) fun _ => hX
  refine Ev.bind hL ?_
  cases allN (fun j => wireB (gt b.Wires j) (snkN b.Design (j : Int))) b.Wires.length <;> exact .done
end Go.Fw
