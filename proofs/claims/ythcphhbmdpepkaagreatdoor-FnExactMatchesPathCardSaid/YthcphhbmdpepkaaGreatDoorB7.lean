/- By a program of mine (gen.py): for each function a plain function and the proof that the code computes it. -/
import Derived.Test.YthcphhbmdpepkaaGreatDoorA3
import Derived.Test.YthcphhbmdpepkaaGreatDoorFw33

namespace Go.Fw
open Go Go.Proofs
open Go.RowKit (Below)
set_option maxRecDepth 100000
def qgI (n : Nat) (t : qF) : Option Bool :=
 (qgm n t.Slews).bind fun r1 =>
 bif r1 then
  (qgm n t.Loads).bind fun r2 =>
  bif r2 then
   bif ((t.Values.length : Int) == (W64 ((t.Slews.length : Int) * (t.Loads.length : Int)))) then
    (qbs n t.Values (-1000000) 1000000).bind fun r3 =>
    some r3
   else
    some false
  else
   some false
 else
  some false

theorem qk3 {n : Nat} {w : World} {t : qF} {cs1 : List Value} (ha1 : GoT.R w (old w) t cs1) {r : Bool} (hF : qgI n t = some r) : RetV Tryz.prog 212 [GoT.v qF cs1] w r := by
 obtain ⟨p1, k1, p2, k2, p3, k3, rfl, s1, s2, s3⟩ := qbD ha1
 refine qe Tryz.func212 rfl (m := 29) rfl rfl (fun h => ?_)
 rw [qgI] at hF
 refine zSR (qM h rfl rfl ?_)
 intro w1 bb1 h
 refine zp1 rfl (zNSR (zp1 rfl (zl 0 0 h rfl ?_)))
 obtain ⟨r1, hr1, hF⟩ := qd hF
 refine ql r1 h call221 (qjc ⟨_, _, rfl, (h.oldS s1)⟩ hr1) rfl rfl rfl rfl ?_
 intro w2 h
 refine zp1 rfl ?_
 by_cases hc1 : r1 = true
 ·replace hF := bifT hc1 hF
  refine qC hc1 (t := 6) rfl (qa rfl (zp1 rfl (qa rfl (zl 0 1 h rfl (qa rfl ?_)))))
  obtain ⟨r2, hr2, hF⟩ := qd hF
  refine ql r2 h call221 (qjc ⟨_, _, rfl, (h.oldS s2)⟩ hr2) rfl rfl rfl rfl ?_
  intro w3 h
  refine zp2 rfl ?_
  by_cases hc2 : r2 = true
  ·replace hF := bifT hc2 hF
   refine qC hc2 (t := 11) rfl (qa rfl (zp1 rfl (qa rfl (zl 0 2 h rfl (qa rfl (zp1 rfl (qa rfl (zp1 rfl (qa rfl (zl 0 0 h rfl (qa rfl ?_)))))))))))
   refine zp1 rfl (qa rfl (zp1 rfl (qa rfl (zl 0 1 h rfl (qa rfl (zp1 rfl (qa rfl (zp1 rfl (qa rfl (zp2 rfl ?_))))))))))
   refine zp1 rfl ?_
   by_cases hc3 : ((t.Values.length : Int) == (W64 ((t.Slews.length : Int) * (t.Loads.length : Int)))) = true
   ·replace hF := bifT hc3 hF
    refine qC hc3 (t := 24) rfl (qa rfl (zp1 rfl (qa rfl (zl 0 2 h rfl (qa rfl ?_)))))
    obtain ⟨r3, hr3, hF⟩ := qd hF
    refine ql r3 h call82 (qb9 ⟨_, _, rfl, (h.oldS s3)⟩ hr3) rfl rfl rfl rfl ?_
    intro w4 h
    exact zp2 rfl (qb (qu qc h hF ⟨rfl, trivial⟩))
   replace hc3 := zb hc3
   replace hF := bifF hc3 hF
   exact qB hc3 (t := 24) rfl (zn3 rfl (zp2 rfl (qb (qu qc h hF ⟨rfl, trivial⟩))))
  replace hc2 := zb hc2
  replace hF := bifF hc2 hF
  refine qB hc2 (t := 11) rfl (zn5 rfl (zn5 rfl (zn1 rfl ?_)))
  exact zp2 rfl (zn3 rfl (zp2 rfl (qb (qu qc h hF ⟨rfl, trivial⟩))))
 replace hc1 := zb hc1
 replace hF := bifF hc1 hF
 refine qB hc1 (t := 6) rfl (zn3 rfl (zp2 rfl (zn5 rfl (zn1 rfl ?_))))
 refine zn5 rfl (zp2 rfl (zn3 rfl (zp2 rfl ?_)))
 exact qb (qu qc h hF ⟨rfl, trivial⟩)

def qbF (x : (List Int)) : Nat → Int → Int → Option (Int × Int)
 | 0, _, _ => none
 | n + 1, i1, i2 =>
  bif decide (i2 < (x.length : Int)) then
   (idx x i2).bind fun y2 =>
   qbF x n (if y2 < i1 then y2 else i1) (W64 (i2 + 1))
  else
   some (i1, i2)

def qeC (n : Nat) (x : (List Int)) : Option Int :=
 (
  bif decide ((x.length : Int) < 1) then
   none
  else
   some ()).bind fun _ =>
 (idx x 0).bind fun y1 =>
 (qbF x n y1 1).bind fun o => match o with
 | (i1, _) =>
  some i1

theorem qjB {n : Nat} {w : World} {x : (List Int)} {cs1 : List Value} (ha1 : GoT.R w (old w) x cs1) {r : Int} (hF : qeC n x = some r) : RetV Tryz.prog 213 [GoT.v (List Int) cs1] w r := by
 obtain ⟨p1, k1, rfl, s1⟩ := ha1
 refine qe Tryz.func213 rfl (m := 25) rfl rfl (fun h => ?_)
 rw [qeC] at hF
 refine zSR (zp1 rfl (zNSSR (zp3 rfl (qb ?_))))
 obtain ⟨KF1, hKF1, o2, hF, hK2⟩ := bindE hF
 refine qem (fun e w' => KF1 () = some r ∧ e = [(0, .slice p1 x.length k1)] ∧ SH w w' []) ?_ ?_
 ·refine qq rfl hF ?_ ?_ <;> intro hF
  ·refine qE ?_
   cases hF
  refine qd4 ?_
  obtain rfl := qj hF
  exact qx [(0, _)] ⟨rfl, trivial⟩ ⟨hK2, rfl, h⟩
 rintro e2 w2 ⟨hF, rfl, h⟩
 subst hKF1
 refine zSR (zp1 rfl ?_)
 obtain ⟨y1, hy1, hF⟩ := qd hF
 have he1 := qg hy1
 obtain ⟨b1, o_1, q1, cs2, hp1, hq1, -, hr1, hc1⟩ := s1.at hy1
 obtain rfl := hr1
 refine zxe hp1 hq1 he1 rfl (zc 0 (hc1.below h.below) rfl (zp1 rfl (zNSSR (zp1 rfl (qb ?_)))))
 obtain ⟨o1, hF, hK1⟩ := qd hF
 refine qz (qT [(0, _), (3, _), (4, _)] ⟨rfl, rfl, rfl, trivial⟩ ?_)
 refine qH (fun m e w' => ∃ (i1 : Int) (i2 : Int), qbF x m i1 i2 = some o1 ∧ e = [(0, .slice p1 x.length k1), (3, .int .i64 i1), (4, .int .i64 i2)] ∧ SH w w' []) n ⟨_, _, hF, rfl, h⟩ ?_
 rintro m1 e1 w1 ⟨i1, i2, hF, rfl, h⟩
 rcases m1 with _ | m1
 ·rw [qbF] at hF
  cases hF
 rw [qbF] at hF
 refine zSSR (zp4 rfl (qb ?_))
 refine qq rfl hF ?_ ?_ <;> intro hF
 ·refine zKSBR (zp3 rfl ?_)
  obtain ⟨y2, hy2, hF⟩ := qd hF
  have he2 := qg hy2
  obtain ⟨b2, o_2, q2, cs3, hp2, hq2, -, hr2, hc3⟩ := s1.at hy2
  obtain rfl := hr2
  exact zxe hp2 hq2 he2 rfl (zc 0 (hc3.below h.below) rfl (zp2 rfl (zNER (zp3 rfl (qb (qA m1 [(0, _), (3, _), (4, _)] (Nat.lt_succ_self m1) ⟨rfl, rfl, rfl, trivial⟩ ⟨_, _, hF, rfl, h⟩))))))
 refine qI rfl ?_
 obtain rfl := qj hF; replace hF := hK1
 exact zSR (zp2 rfl (qb (qaB qc h hF ⟨rfl, trivial⟩)))

def qeA (n : Nat) (t : qF) (v0 : Bool) : Option Bool :=
 (qgI n t).bind fun r1 =>
 bif (!r1) then
  some true
 else
  bif v0 then
   (qeC n t.Values).bind fun r2 =>
   some (decide (r2 < 0))
  else
   some false

theorem qjC {n : Nat} {w : World} {t : qF} {v0 : Bool} {cs1 : List Value} (ha1 : GoT.R w (old w) t cs1) {p4 : Option Addr} (ha2 : GoT.R w (old w) (some v0) [.pointer p4]) {r : Bool} (hF : qeA n t v0 = some r) : RetV Tryz.prog 211 [GoT.v qF cs1, .pointer p4] w r := by
 obtain ⟨p1, k1, p2, k2, p3, k3, rfl, s1, s2, s3⟩ := qbD ha1
 obtain ⟨b1, o_1, cs2, rfl, -, hr1, hc1⟩ := PtR.get ha2 rfl
 obtain rfl := hr1
 refine qe Tryz.func211 rfl (m := 16) rfl rfl (fun h => ?_)
 rw [qeA] at hF
 refine zSR (qM h rfl rfl ?_)
 intro w1 bb1 h
 refine zp1 rfl (zNSR (zl 0 0 h rfl ?_))
 obtain ⟨r1, hr2, hF⟩ := qd hF
 refine ql r1 h call212 (qk3 (h.old ha1) hr2) rfl rfl rfl rfl ?_
 intro w2 h
 refine zp2 rfl ?_
 by_cases hc2 : (!r1) = true
 ·replace hF := bifT hc2 hF
  exact qC hc2 (t := 7) rfl (zn5 rfl (zn2 rfl (zp2 rfl (qb (qu qc h hF ⟨rfl, trivial⟩)))))
 replace hc2 := zb hc2
 replace hF := bifF hc2 hF
 refine qB hc2 (t := 7) rfl (qa rfl (zc 0 (hc1.below h.below) rfl (qa rfl (zp1 rfl ?_))))
 by_cases hc3 : v0 = true
 ·replace hF := bifT hc3 hF
  refine qC hc3 (t := 9) rfl (qa rfl (zp1 rfl (qa rfl (zl 0 2 h rfl (qa rfl ?_)))))
  obtain ⟨r2, hr3, hF⟩ := qd hF
  refine qQ r2 h call213 (qjB ⟨_, _, rfl, (h.oldS s3)⟩ hr3) rfl rfl rfl rfl ?_
  intro w3 h
  exact qa rfl (zp1 rfl (qa rfl (zp3 rfl (qb (qu qc h hF ⟨rfl, trivial⟩)))))
 replace hc3 := zb hc3
 replace hF := bifF hc3 hF
 exact qB hc3 (t := 9) rfl (zn4 rfl (qa rfl (zp3 rfl (qb (qu qc h hF ⟨rfl, trivial⟩)))))

def qL (s : (List qF)) (f_0 : Bool) : Nat → Int → Option (Flow Int Int)
 | 0, _ => none
 | n + 1, i1 =>
  bif decide (i1 < (s.length : Int)) then
   (idx s i1).bind fun y1 =>
   (qeA n y1 f_0).bind fun r1 =>
   bif r1 then
    some (.ret i1)
   else
    qL s f_0 n (W64 (i1 + 1))
  else
   some (.nxt i1)

def qai (n : Nat) (s : (List qF)) (f_0 : Bool) : Option Int :=
 (qL s f_0 n 0).bind fun o => match o with
 | .ret r => some r
 | .nxt _ =>
  some (-1)

theorem qeg {n : Nat} {w : World} {s : (List qF)} {f_0 : Bool} {cs1 : List Value} (ha1 : GoT.R w (old w) s cs1) {p2 : Option Addr} (ha2 : GoT.R w (old w) (some f_0) [.pointer p2]) {r : Int} (hF : qai n s f_0 = some r) : RetV Tryz.prog 220 [GoT.v (List qF) cs1, .func (.func 211) #[] #[.pointer p2]] w r := by
 obtain ⟨p1, k1, rfl, s1⟩ := ha1
 obtain ⟨b1, o_1, cs2, rfl, -, hr1, hc1⟩ := PtR.get ha2 rfl
 obtain rfl := hr1
 refine qe Tryz.func220 rfl (m := 19) rfl rfl (fun h => ?_)
 rw [qai] at hF
 refine zSR (zp1 rfl (zNSSR (zp3 rfl (qb ?_))))
 obtain ⟨o1, hF, hK1⟩ := qd hF
 refine qz (qT [(0, _), (1, _), (7, _), (8, _)] ⟨rfl, rfl, rfl, rfl, trivial⟩ ?_)
 refine qH (fun m e w' => ∃ (i1 : Int), qL s f_0 m i1 = some o1 ∧ e = [(0, .slice p1 s.length k1), (1, .func (.func 211) #[] #[.pointer (some ⟨b1, o_1, none⟩)]), (7, .int .i64 (s.length : Int)), (8, .int .i64 i1)] ∧ SH w w' []) n ⟨_, hF, rfl, h⟩ ?_
 rintro m1 e1 w1 ⟨i1, hF, rfl, h⟩
 rcases m1 with _ | m1
 ·rw [qL] at hF
  cases hF
 rw [qL] at hF
 refine zSR (zp1 rfl (zNS ?_))
 refine qq rfl hF ?_ ?_ <;> intro hF
 ·refine zKSBSR (zp2 rfl (zNSR (zp2 rfl ?_)))
  refine zp1 rfl ?_
  obtain ⟨y1, hy1, hF⟩ := qd hF
  have he1 := qg hy1
  obtain ⟨b2, o_2, q1, cs3, hp1, hq1, -, hr2, hc3⟩ := s1.at hy1
  obtain ⟨p3, k2, p4, k3, p5, k4, rfl, s2, s3, s4⟩ := qbD hr2
  refine zxe hp1 hq1 he1 rfl (zc 0 (hc3.below h.below) rfl ?_)
  obtain ⟨r1, hr3, hF⟩ := qd hF
  refine ql r1 h call211 (qjC (qgV y1 (h.oldS s2) (h.oldS s3) (h.oldS s4)) (h.old ha2) hr3) rfl rfl rfl rfl ?_
  intro w2 h
  refine qb ?_
  refine qq rfl hF ?_ ?_ <;> intro hF
  ·refine zSR (zp2 rfl (qb ?_))
   obtain rfl := qj hF; replace hF := hK1
   exact qaB qc h hF ⟨rfl, trivial⟩
  exact zKER (zp2 rfl (qb (qA m1 [(0, _), (1, _), (7, _), (8, _)] (Nat.lt_succ_self m1) ⟨rfl, rfl, rfl, rfl, trivial⟩ ⟨_, hF, rfl, h⟩)))
 refine qI rfl ?_
 obtain rfl := qj hF; replace hF := hK1
 exact zSR (zp1 rfl (qb (qaB qc h hF ⟨rfl, trivial⟩)))

def qay (n : Nat) (s : (List qF)) (f_0 : Bool) : Option Bool :=
 (qai n s f_0).bind fun r1 =>
 some (decide (r1 ≥ 0))

theorem qdY {n : Nat} {w : World} {s : (List qF)} {f_0 : Bool} {cs1 : List Value} (ha1 : GoT.R w (old w) s cs1) {p2 : Option Addr} (ha2 : GoT.R w (old w) (some f_0) [.pointer p2]) {r : Bool} (hF : qay n s f_0 = some r) : RetV Tryz.prog 210 [GoT.v (List qF) cs1, .func (.func 211) #[] #[.pointer p2]] w r := by
 obtain ⟨p1, k1, rfl, s1⟩ := ha1
 obtain ⟨b1, o_1, cs2, rfl, -, hr1, hc1⟩ := PtR.get ha2 rfl
 obtain rfl := hr1
 refine qe Tryz.func210 rfl (m := 9) rfl rfl (fun h => ?_)
 rw [qay] at hF
 refine zSR (zp1 rfl (zNSR (zp2 rfl ?_)))
 obtain ⟨r1, hr2, hF⟩ := qd hF
 refine qQ r1 h call220 (qeg ⟨_, _, rfl, (h.oldS s1)⟩ (h.old ha2) hr2) rfl rfl rfl rfl ?_
 intro w1 h
 exact zp2 rfl (qb (qu qc h hF ⟨rfl, trivial⟩))

def qdT (n : Nat) (list : (List qF)) (positive : Bool) : Option Bool :=
 bif ((list.length : Int) == 2) then
  (qay n list positive).bind fun r1 =>
  some (!r1)
 else
  some false

theorem qgq {n : Nat} {w : World} {list : (List qF)} {positive : Bool} {cs1 : List Value} (ha1 : GoT.R w (old w) list cs1) {r : Bool} (hF : qdT n list positive = some r) : RetV Tryz.prog 199 [GoT.v (List qF) cs1, .bool positive] w r := by
 obtain ⟨p1, k1, rfl, s1⟩ := ha1
 refine qe Tryz.func199 rfl (m := 14) rfl rfl (fun h => ?_)
 rw [qdT] at hF
 refine zSR (qM h rfl rfl ?_)
 intro w1 bb1 h
 refine zp1 rfl (zNSR (zp4 rfl ?_))
 by_cases hc1 : ((list.length : Int) == 2) = true
 ·replace hF := bifT hc1 hF
  refine qC hc1 (t := 8) rfl (qa rfl (zp1 rfl (qa rfl (zp1 rfl (qa rfl ?_)))))
  obtain ⟨r1, hr1, hF⟩ := qd hF
  refine ql r1 h call210 (qdY ⟨_, _, rfl, (h.oldS s1)⟩ (qhJ (x := positive) 0 h rfl rfl) hr1) rfl rfl rfl rfl ?_
  intro w2 h
  exact qa rfl (zp3 rfl (qb (qu qc h hF ⟨rfl, trivial⟩)))
 replace hc1 := zb hc1
 replace hF := bifF hc1 hF
 exact qB hc1 (t := 8) rfl (zn4 rfl (zp2 rfl (qb (qu qc h hF ⟨rfl, trivial⟩))))

def qfh (_ : Nat) (p : qaq) : Option Bool :=
 some p.Clock

theorem qi3 {n : Nat} {w : World} {p : qaq} {cs1 : List Value} (ha1 : GoT.R w (old w) p cs1) {r : Bool} (hF : qfh n p = some r) : RetV Tryz.prog 215 [GoT.v qaq cs1] w r := by
 obtain rfl := qbq ha1
 refine qe Tryz.func215 rfl (m := 5) rfl rfl (fun h => ?_)
 rw [qfh] at hF
 refine zSR (qM h rfl rfl ?_)
 intro w1 bb1 h
 exact zp1 rfl (zNSR (zp1 rfl (zl 0 3 h rfl (zp1 rfl (qb (qu qc h hF ⟨rfl, trivial⟩))))))

def qN (s : (List qaq)) : Nat → Int → Option (Flow Int Int)
 | 0, _ => none
 | n + 1, i1 =>
  bif decide (i1 < (s.length : Int)) then
   (idx s i1).bind fun y1 =>
   (qfh n y1).bind fun r1 =>
   bif r1 then
    some (.ret i1)
   else
    qN s n (W64 (i1 + 1))
  else
   some (.nxt i1)

def qaN (n : Nat) (s : (List qaq)) : Option Int :=
 (qN s n 0).bind fun o => match o with
 | .ret r => some r
 | .nxt _ =>
  some (-1)

theorem qer {n : Nat} {w : World} {s : (List qaq)} {cs1 : List Value} (ha1 : GoT.R w (old w) s cs1) {r : Int} (hF : qaN n s = some r) : RetV Tryz.prog 214 [GoT.v (List qaq) cs1, .func (.func 215) #[] #[]] w r := by
 obtain ⟨p1, k1, rfl, s1⟩ := ha1
 refine qe Tryz.func214 rfl (m := 19) rfl rfl (fun h => ?_)
 rw [qaN] at hF
 refine zSR (zp1 rfl (zNSSR (zp3 rfl (qb ?_))))
 obtain ⟨o1, hF, hK1⟩ := qd hF
 refine qz (qT [(0, _), (1, _), (7, _), (8, _)] ⟨rfl, rfl, rfl, rfl, trivial⟩ ?_)
 refine qH (fun m e w' => ∃ (i1 : Int), qN s m i1 = some o1 ∧ e = [(0, .slice p1 s.length k1), (1, .func (.func 215) #[] #[]), (7, .int .i64 (s.length : Int)), (8, .int .i64 i1)] ∧ SH w w' []) n ⟨_, hF, rfl, h⟩ ?_
 rintro m1 e1 w1 ⟨i1, hF, rfl, h⟩
 rcases m1 with _ | m1
 ·rw [qN] at hF
  cases hF
 rw [qN] at hF
 refine zSR (zp1 rfl (zNS ?_))
 refine qq rfl hF ?_ ?_ <;> intro hF
 ·refine zKSBSR (zp2 rfl (zNSR (zp2 rfl ?_)))
  refine zp1 rfl ?_
  obtain ⟨y1, hy1, hF⟩ := qd hF
  have he1 := qg hy1
  obtain ⟨b1, o_1, q1, cs2, hp1, hq1, -, hr1, hc2⟩ := s1.at hy1
  obtain rfl := qbq hr1
  refine zxe hp1 hq1 he1 rfl (zc 0 (hc2.below h.below) rfl ?_)
  obtain ⟨r1, hr2, hF⟩ := qd hF
  refine ql r1 h call215 (qi3 (qhl y1) hr2) rfl rfl rfl rfl ?_
  intro w2 h
  refine qb ?_
  refine qq rfl hF ?_ ?_ <;> intro hF
  ·refine zSR (zp2 rfl (qb ?_))
   obtain rfl := qj hF; replace hF := hK1
   exact qaB qc h hF ⟨rfl, trivial⟩
  exact zKER (zp2 rfl (qb (qA m1 [(0, _), (1, _), (7, _), (8, _)] (Nat.lt_succ_self m1) ⟨rfl, rfl, rfl, rfl, trivial⟩ ⟨_, hF, rfl, h⟩)))
 refine qI rfl ?_
 obtain rfl := qj hF; replace hF := hK1
 exact zSR (zp1 rfl (qb (qaB qc h hF ⟨rfl, trivial⟩)))

def qe4 (n : Nat) (c : qD) : Option Int :=
 (qaN n c.Pins).bind fun r1 =>
 some r1

theorem qjU {n : Nat} {w : World} {c : qD} {cs1 : List Value} (ha1 : GoT.R w (old w) c cs1) {r : Int} (hF : qe4 n c = some r) : RetV Tryz.prog 200 [GoT.v qD cs1] w r := by
 obtain ⟨p1, k1, p2, k2, p3, k3, rfl, s1, s2, s3⟩ := qV ha1
 refine qe Tryz.func200 rfl (m := 6) rfl rfl (fun h => ?_)
 rw [qe4] at hF
 refine zSR (qM h rfl rfl ?_)
 intro w1 bb1 h
 refine zp1 rfl (zNSR (zp1 rfl (zl 0 2 h rfl ?_)))
 obtain ⟨r1, hr1, hF⟩ := qd hF
 refine qQ r1 h call214 (qer ⟨_, _, rfl, (h.oldS s1)⟩ hr1) rfl rfl rfl rfl ?_
 intro w2 h
 exact zp1 rfl (qb (qaB qc h hF ⟨rfl, trivial⟩))

def qel (n : Nat) (c : qD) (pin : Int) : Option Bool :=
 (qb4 n c).bind fun r1 =>
 (qaM n pin 0 (W64 (r1 - 1))).bind fun r2 =>
 some r2

theorem qhd {n : Nat} {w : World} {c : qD} {pin : Int} {cs1 : List Value} (ha1 : GoT.R w (old w) c cs1) {r : Bool} (hF : qel n c pin = some r) : RetV Tryz.prog 201 [GoT.v qD cs1, .int .i64 pin] w r := by
 obtain ⟨p1, k1, p2, k2, p3, k3, rfl, s1, s2, s3⟩ := qV ha1
 refine qe Tryz.func201 rfl (m := 10) rfl rfl (fun h => ?_)
 rw [qel] at hF
 refine zSR (qM h rfl rfl ?_)
 intro w1 bb1 h
 refine zp1 rfl (zNSR (zp1 rfl (zl 0 0 h rfl ?_)))
 obtain ⟨r1, hr1, hF⟩ := qd hF
 refine qQ r1 h call106 (qev (h.old ha1) hr1) rfl rfl rfl rfl ?_
 intro w2 h
 refine zp1 rfl ?_
 obtain ⟨r2, hr2, hF⟩ := qd hF
 refine ql r2 h call100 (qaw hr2) rfl rfl rfl rfl ?_
 intro w3 h
 exact zp1 rfl (qb (qu qc h hF ⟨rfl, trivial⟩))

def qe6 (n : Nat) (a_0 : qD) (a_1 : qac) : Option Bool :=
 (qgu n a_1.Kind).bind fun r1 =>
 bif r1 then
  (
   bif (a_1.Sense == 0) then
    bif ((a_1.Slew.length : Int) == 0) then
     (qdT n a_1.Delay false).bind fun r2 =>
     bif r2 then
      (qe4 n a_0).bind fun r3 =>
      bif (a_1.From == r3) then
       bif decide (a_1.From ≥ 0) then
        (qel n a_0 a_1.To).bind fun r4 =>
        bif r4 then
         some (a_1.To != a_1.From)
        else
         some false
       else
        some false
      else
       some false
     else
      some false
    else
     some false
   else
    some false).bind fun b1 =>
  some b1
 else
  (
   (qdT n a_1.Delay true).bind fun r6 =>
   bif (!r6) then
    some true
   else
    (qdT n a_1.Slew true).bind fun r7 =>
    bif (!r7) then
     some true
    else
     (qb4 n a_0).bind fun r8 =>
     bif (a_1.To != r8) then
      some true
     else
      (qel n a_0 a_1.From).bind fun r9 =>
      some (!r9)).bind fun b2 =>
  bif b2 then
   some false
  else
   bif (a_1.Kind == 1) then
    (idx a_0.Pins a_1.From).bind fun y1 =>
    bif (!y1.Clock) then
     (qaM n a_1.Sense 1 3).bind fun r5 =>
     some r5
    else
     some false
   else
    (
     bif (a_1.Kind == 2) then
      some (a_1.Kind == 2)
     else
      some (a_1.Kind == 3)).bind fun b4 =>
    bif b4 then
     (idx a_0.Pins a_1.From).bind fun y2 =>
     bif y2.Clock then
      some (a_1.Sense == 0)
     else
      some false
    else
     some false

theorem qjO {n : Nat} {w : World} {a_0 : qD} {a_1 : qac} {cs1 : List Value} (ha1 : GoT.R w (old w) a_0 cs1) {cs2 : List Value} (ha2 : GoT.R w (old w) a_1 cs2) {r : Bool} (hF : qe6 n a_0 a_1 = some r) : RetV Tryz.prog 182 [GoT.v qD cs1, GoT.v qac cs2] w r := by
 obtain ⟨p1, k1, p2, k2, p3, k3, rfl, s1, s2, s3⟩ := qV ha1
 obtain ⟨p4, k4, p5, k5, rfl, s4, s5⟩ := qat ha2
 refine qe Tryz.func182 rfl (m := 103) rfl rfl (fun h => ?_)
 rw [qe6] at hF
 refine zSR (qM h rfl rfl ?_)
 intro w1 bb1 h
 refine qM h rfl rfl ?_
 intro w2 bb2 h
 refine zp1 rfl (zNSSR (zp1 rfl (zl 0 0 h rfl ?_)))
 obtain ⟨r1, hr1, hF⟩ := qd hF
 refine ql r1 h call198 (qk2 hr1) rfl rfl rfl rfl ?_
 intro w3 h
 refine qb ?_
 refine qq rfl hF ?_ ?_ <;> intro hF
 ·refine qbn ?_
  obtain ⟨KF1, hKF1, o1, hF, hK1⟩ := bindE hF
  refine qem (fun e w' => ∃ (b1 : Bool), KF1 b1 = some r ∧ e = [(4, .bool b1)] ∧ SH w w' []) ?_ ?_
  ·refine qco rfl (by kernel_rfl) ?_
   refine zd1 rfl ?_
   refine zdl 0 3 h rfl ?_
   refine zd2 rfl ?_
   by_cases hc2 : (a_1.Sense == 0) = true
   ·replace hF := bifT hc2 hF
    refine qb0 hc2 (t := 11) rfl (qf rfl (zd1 rfl (qf rfl ?_)))
    refine zdl 0 5 h rfl ?_
    refine qf rfl (zd1 rfl (qf rfl (zd3 rfl ?_)))
    by_cases hc3 : ((a_1.Slew.length : Int) == 0) = true
    ·replace hF := bifT hc3 hF
     refine qb0 hc3 (t := 17) rfl (qf rfl (zd1 rfl (qf rfl ?_)))
     refine zdl 0 4 h rfl ?_
     refine qf rfl ?_
     obtain ⟨r2, hr2, hF⟩ := qd hF
     refine qcf r2 (vsB _) call199 (fun _ hb => qgq ⟨_, _, rfl, ((h.ext hb).oldS s4)⟩ hr2) rfl rfl rfl rfl ?_
     refine zd2 rfl ?_
     by_cases hc4 : r2 = true
     ·replace hF := bifT hc4 hF
      refine qb0 hc4 (t := 22) rfl (qf rfl (zd1 rfl (qf rfl ?_)))
      refine zdl 0 1 h rfl ?_
      refine qf rfl ?_
      refine zdl 1 0 h rfl ?_
      refine qf rfl ?_
      obtain ⟨r3, hr3, hF⟩ := qd hF
      refine qcf r3 (vsI _) call200 (fun _ hb => qjU ((h.ext hb).old ha1) hr3) rfl rfl rfl rfl ?_
      refine qf rfl (zd3 rfl ?_)
      by_cases hc5 : (a_1.From == r3) = true
      ·replace hF := bifT hc5 hF
       refine qb0 hc5 (t := 29) rfl (qf rfl (zd1 rfl (qf rfl ?_)))
       refine zdl 0 1 h rfl ?_
       refine qf rfl (zd3 rfl ?_)
       by_cases hc6 : (decide (a_1.From ≥ 0)) = true
       ·replace hF := bifT hc6 hF
        refine qb0 hc6 (t := 34) rfl (qf rfl ?_)
        refine zdl 1 0 h rfl ?_
        refine qf rfl (zd1 rfl (qf rfl ?_))
        refine zdl 0 2 h rfl ?_
        refine qf rfl ?_
        obtain ⟨r4, hr4, hF⟩ := qd hF
        refine qcf r4 (vsB _) call201 (fun _ hb => qhd ((h.ext hb).old ha1) hr4) rfl rfl rfl rfl ?_
        refine zd2 rfl ?_
        by_cases hc7 : r4 = true
        ·replace hF := bifT hc7 hF
         refine qb0 hc7 (t := 40) rfl (qf rfl (zd1 rfl (qf rfl ?_)))
         refine zdl 0 2 h rfl ?_
         refine qf rfl (zd1 rfl (qf rfl ?_))
         refine zdl 0 1 h rfl ?_
         refine qf rfl (zd3 rfl ?_)
         refine qaX (fun w4 hb => ?_)
         replace h := h.ext hb
         clear hb
         replace h := h.pick [] rfl
         obtain rfl := qj hF
         exact qx [(4, _)] ⟨rfl, trivial⟩ ⟨_, hK1, rfl, h⟩
        replace hc7 := zb hc7
        replace hF := bifF hc7 hF
        refine qb3 hc7 (t := 40) rfl (qh rfl rfl rfl (qh rfl rfl rfl (qh rfl rfl rfl (qh rfl rfl rfl (qh rfl rfl rfl (zd2 rfl ?_))))))
        refine qaX (fun w5 hb => ?_)
        replace h := h.ext hb
        clear hb
        replace h := h.pick [] rfl
        obtain rfl := qj hF
        exact qx [(4, _)] ⟨rfl, trivial⟩ ⟨_, hK1, rfl, h⟩
       replace hc6 := zb hc6
       replace hF := bifF hc6 hF
       refine qb3 hc6 (t := 34) rfl (qh rfl rfl rfl (qh rfl rfl rfl (qh rfl rfl rfl (qh rfl rfl rfl (zd2 rfl (qh rfl rfl rfl (qh rfl rfl rfl (qh rfl rfl rfl (qh rfl rfl rfl (qh rfl rfl rfl ?_))))))))))
       refine zd2 rfl ?_
       refine qaX (fun w6 hb => ?_)
       replace h := h.ext hb
       clear hb
       replace h := h.pick [] rfl
       obtain rfl := qj hF
       exact qx [(4, _)] ⟨rfl, trivial⟩ ⟨_, hK1, rfl, h⟩
      replace hc5 := zb hc5
      replace hF := bifF hc5 hF
      refine qb3 hc5 (t := 29) rfl (qh rfl rfl rfl (qh rfl rfl rfl (qh rfl rfl rfl (zd2 rfl (qh rfl rfl rfl (qh rfl rfl rfl (qh rfl rfl rfl (qh rfl rfl rfl (zd2 rfl ?_)))))))))
      refine qh rfl rfl rfl (qh rfl rfl rfl (qh rfl rfl rfl (qh rfl rfl rfl (qh rfl rfl rfl (zd2 rfl ?_)))))
      refine qaX (fun w7 hb => ?_)
      replace h := h.ext hb
      clear hb
      replace h := h.pick [] rfl
      obtain rfl := qj hF
      exact qx [(4, _)] ⟨rfl, trivial⟩ ⟨_, hK1, rfl, h⟩
     replace hc4 := zb hc4
     replace hF := bifF hc4 hF
     refine qb3 hc4 (t := 22) rfl (qh rfl rfl rfl (qh rfl rfl rfl (qh rfl rfl rfl (qh rfl rfl rfl (qh rfl rfl rfl (zd2 rfl (qh rfl rfl rfl (qh rfl rfl rfl (qh rfl rfl rfl (zd1 rfl ?_))))))))))
     refine zd1 rfl (qh rfl rfl rfl (qh rfl rfl rfl (qh rfl rfl rfl (qh rfl rfl rfl (zd2 rfl (qh rfl rfl rfl (qh rfl rfl rfl (qh rfl rfl rfl (qh rfl rfl rfl (qh rfl rfl rfl ?_))))))))))
     refine zd2 rfl ?_
     refine qaX (fun w8 hb => ?_)
     replace h := h.ext hb
     clear hb
     replace h := h.pick [] rfl
     obtain rfl := qj hF
     exact qx [(4, _)] ⟨rfl, trivial⟩ ⟨_, hK1, rfl, h⟩
    replace hc3 := zb hc3
    replace hF := bifF hc3 hF
    refine qb3 hc3 (t := 17) rfl (qh rfl rfl rfl (qh rfl rfl rfl (qh rfl rfl rfl (zd2 rfl (qh rfl rfl rfl (qh rfl rfl rfl (qh rfl rfl rfl (qh rfl rfl rfl (qh rfl rfl rfl (zd1 rfl ?_))))))))))
    refine zd1 rfl (qh rfl rfl rfl (qh rfl rfl rfl (qh rfl rfl rfl (zd2 rfl (qh rfl rfl rfl (qh rfl rfl rfl (qh rfl rfl rfl (qh rfl rfl rfl (zd2 rfl ?_)))))))))
    refine qh rfl rfl rfl (qh rfl rfl rfl (qh rfl rfl rfl (qh rfl rfl rfl (qh rfl rfl rfl (zd2 rfl ?_)))))
    refine qaX (fun w9 hb => ?_)
    replace h := h.ext hb
    clear hb
    replace h := h.pick [] rfl
    obtain rfl := qj hF
    exact qx [(4, _)] ⟨rfl, trivial⟩ ⟨_, hK1, rfl, h⟩
   replace hc2 := zb hc2
   replace hF := bifF hc2 hF
   refine qb3 hc2 (t := 11) rfl (qh rfl rfl rfl (qh rfl rfl rfl (qh rfl rfl rfl (qh rfl rfl rfl (zd2 rfl (qh rfl rfl rfl (qh rfl rfl rfl (qh rfl rfl rfl (zd2 rfl ?_)))))))))
   refine qh rfl rfl rfl (qh rfl rfl rfl (qh rfl rfl rfl (qh rfl rfl rfl (qh rfl rfl rfl (zd2 rfl (qh rfl rfl rfl (qh rfl rfl rfl (qh rfl rfl rfl (zd2 rfl ?_)))))))))
   refine qh rfl rfl rfl (qh rfl rfl rfl (qh rfl rfl rfl (qh rfl rfl rfl (zd2 rfl (qh rfl rfl rfl (qh rfl rfl rfl (qh rfl rfl rfl (qh rfl rfl rfl (qh rfl rfl rfl (zd1 rfl ?_))))))))))
   refine zd1 rfl ?_
   refine qaX (fun w10 hb => ?_)
   replace h := h.ext hb
   clear hb
   replace h := h.pick [] rfl
   obtain rfl := qj hF
   exact qx [(4, _)] ⟨rfl, trivial⟩ ⟨_, hK1, rfl, h⟩
  rintro e1 w11 ⟨b1, hF, rfl, h⟩
  subst hKF1
  exact qu qc h hF ⟨rfl, trivial⟩
 refine zKSS ?_
 obtain ⟨KF3, hKF3, o3, hF, hK3⟩ := bindE hF
 refine qem (fun e w' => ∃ (b2 : Bool), KF3 b2 = some r ∧ e = [(2, .pointer (some ⟨bb1, 0, none⟩)), (3, .pointer (some ⟨bb2, 0, none⟩)), (70, .bool b2)] ∧ SH w w' [Ch.box bb2 [.int .i64 a_1.Kind, .int .i64 a_1.From, .int .i64 a_1.To, .int .i64 a_1.Sense, .slice p4 a_1.Delay.length k4, .slice p5 a_1.Slew.length k5] 159, Ch.box bb1 [.string a_0.Name, .int .i64 a_0.Kind, .slice p1 a_0.Pins.length k1, .slice p2 a_0.Arcs.length k2, .slice p3 a_0.Truth.length k3, .int .i64 a_0.Leak, .int .i64 a_0.Energy] 155]) ?_ ?_
 ·refine qco rfl (by kernel_rfl) ?_
  refine zd1 rfl ?_
  refine zdl 0 4 h rfl ?_
  obtain ⟨r6, hr8, hF⟩ := qd hF
  refine qcf r6 (vsB _) call199 (fun _ hb => qgq ⟨_, _, rfl, ((h.ext hb).oldS s4)⟩ hr8) rfl rfl rfl rfl ?_
  refine zd2 rfl ?_
  by_cases hc16 : (!r6) = true
  ·replace hF := bifT hc16 hF
   refine qb0 hc16 (t := 51) rfl (qh rfl rfl rfl (qh rfl rfl rfl (qh rfl rfl rfl (qh rfl rfl rfl (zd2 rfl (qh rfl rfl rfl (qh rfl rfl rfl (qh rfl rfl rfl (qh rfl rfl rfl (qh rfl rfl rfl ?_))))))))))
   refine zd2 rfl (qh rfl rfl rfl (qh rfl rfl rfl (qh rfl rfl rfl (qh rfl rfl rfl (qh rfl rfl rfl (zd1 rfl ?_))))))
   refine qaX (fun w14 hb => ?_)
   replace h := h.ext hb
   clear hb
   obtain rfl := qj hF
   exact qx [(2, _), (3, _), (70, _)] ⟨rfl, rfl, rfl, trivial⟩ ⟨_, hK3, rfl, h⟩
  replace hc16 := zb hc16
  replace hF := bifF hc16 hF
  refine qb3 hc16 (t := 51) rfl (qf rfl (zd1 rfl (qf rfl ?_)))
  refine zdl 0 5 h rfl ?_
  refine qf rfl ?_
  obtain ⟨r7, hr9, hF⟩ := qd hF
  refine qcf r7 (vsB _) call199 (fun _ hb => qgq ⟨_, _, rfl, ((h.ext hb).oldS s5)⟩ hr9) rfl rfl rfl rfl ?_
  refine qf rfl (zd3 rfl ?_)
  by_cases hc17 : (!r7) = true
  ·replace hF := bifT hc17 hF
   refine qb0 hc17 (t := 57) rfl (qh rfl rfl rfl (qh rfl rfl rfl (qh rfl rfl rfl (qh rfl rfl rfl (qh rfl rfl rfl (zd2 rfl (qh rfl rfl rfl (qh rfl rfl rfl (qh rfl rfl rfl (qh rfl rfl rfl ?_))))))))))
   refine qh rfl rfl rfl (zd1 rfl ?_)
   refine qaX (fun w15 hb => ?_)
   replace h := h.ext hb
   clear hb
   obtain rfl := qj hF
   exact qx [(2, _), (3, _), (70, _)] ⟨rfl, rfl, rfl, trivial⟩ ⟨_, hK3, rfl, h⟩
  replace hc17 := zb hc17
  replace hF := bifF hc17 hF
  refine qb3 hc17 (t := 57) rfl (qf rfl (zd1 rfl (qf rfl ?_)))
  refine zdl 0 2 h rfl ?_
  refine qf rfl ?_
  refine zdl 1 0 h rfl ?_
  refine qf rfl ?_
  obtain ⟨r8, hr10, hF⟩ := qd hF
  refine qcf r8 (vsI _) call106 (fun _ hb => qev ((h.ext hb).old ha1) hr10) rfl rfl rfl rfl ?_
  refine qf rfl (zd3 rfl ?_)
  by_cases hc18 : (a_1.To != r8) = true
  ·replace hF := bifT hc18 hF
   refine qb0 hc18 (t := 64) rfl (qh rfl rfl rfl (qh rfl rfl rfl (qh rfl rfl rfl (qh rfl rfl rfl (qh rfl rfl rfl (zd1 rfl ?_))))))
   refine qaX (fun w16 hb => ?_)
   replace h := h.ext hb
   clear hb
   obtain rfl := qj hF
   exact qx [(2, _), (3, _), (70, _)] ⟨rfl, rfl, rfl, trivial⟩ ⟨_, hK3, rfl, h⟩
  replace hc18 := zb hc18
  replace hF := bifF hc18 hF
  refine qb3 hc18 (t := 64) rfl (qf rfl ?_)
  refine zdl 1 0 h rfl ?_
  refine qf rfl (zd1 rfl (qf rfl ?_))
  refine zdl 0 1 h rfl ?_
  refine qf rfl ?_
  obtain ⟨r9, hr11, hF⟩ := qd hF
  refine qcf r9 (vsB _) call201 (fun _ hb => qhd ((h.ext hb).old ha1) hr11) rfl rfl rfl rfl ?_
  refine qf rfl (zd2 rfl ?_)
  refine qaX (fun w17 hb => ?_)
  replace h := h.ext hb
  clear hb
  obtain rfl := qj hF
  exact qx [(2, _), (3, _), (70, _)] ⟨rfl, rfl, rfl, trivial⟩ ⟨_, hK3, rfl, h⟩
 rintro e3 w18 ⟨b2, hF, rfl, h⟩
 subst hKF3
 refine qq rfl hF ?_ ?_ <;> intro hF
 ·exact zSR (zp1 rfl (qb (qu qc h hF ⟨rfl, trivial⟩)))
 refine zKSSR (zp1 rfl (zl 0 0 h rfl (qb (zBSR (zp2 rfl ?_)))))
 refine qb ?_
 refine qq rfl hF ?_ ?_ <;> intro hF
 ·refine zSR (zp1 rfl (zl 1 2 h rfl (zp1 rfl (zl 0 1 h rfl ?_))))
  obtain ⟨y1, hy1, hF⟩ := qd hF
  have he1 := qg hy1
  obtain ⟨b3, o_1, q1, cs3, hp1, hq1, -, hr5, hc10⟩ := s1.at hy1
  obtain rfl := qbq hr5
  refine zxe hp1 hq1 he1 rfl (zp1 rfl (zc 3 (hc10.below h.below) rfl (zp2 rfl ?_)))
  by_cases hc11 : (!y1.Clock) = true
  ·replace hF := bifT hc11 hF
   refine qC hc11 (t := 83) rfl (qa rfl (zp1 rfl (qa rfl (zl 0 3 h rfl (qa rfl ?_)))))
   obtain ⟨r5, hr6, hF⟩ := qd hF
   refine ql r5 h call100 (qaw hr6) rfl rfl rfl rfl ?_
   intro w12 h
   exact zp2 rfl (qb (qu qc h hF ⟨rfl, trivial⟩))
  replace hc11 := zb hc11
  replace hF := bifF hc11 hF
  exact qB hc11 (t := 83) rfl (zn3 rfl (zp2 rfl (qb (qu qc h hF ⟨rfl, trivial⟩))))
 refine zSSR (zp2 rfl (qb ?_))
 obtain ⟨KF2, hKF2, o2, hF, hK2⟩ := bindE hF
 refine qem (fun e w' => ∃ (b4 : Bool), KF2 b4 = some r ∧ e = [(2, .pointer (some ⟨bb1, 0, none⟩)), (3, .pointer (some ⟨bb2, 0, none⟩)), (88, .bool b4)] ∧ SH w w' [Ch.box bb2 [.int .i64 a_1.Kind, .int .i64 a_1.From, .int .i64 a_1.To, .int .i64 a_1.Sense, .slice p4 a_1.Delay.length k4, .slice p5 a_1.Slew.length k5] 159, Ch.box bb1 [.string a_0.Name, .int .i64 a_0.Kind, .slice p1 a_0.Pins.length k1, .slice p2 a_0.Arcs.length k2, .slice p3 a_0.Truth.length k3, .int .i64 a_0.Leak, .int .i64 a_0.Energy] 155]) ?_ ?_
 ·refine qq rfl hF ?_ ?_ <;> intro hF
  ·refine qd4 ?_
   obtain rfl := qj hF
   exact qx [(2, _), (3, _), (88, _)] ⟨rfl, rfl, rfl, trivial⟩ ⟨_, hK2, rfl, h⟩
  refine qE (zp2 rfl (qb ?_))
  obtain rfl := qj hF
  exact qx [(2, _), (3, _), (88, _)] ⟨rfl, rfl, rfl, trivial⟩ ⟨_, hK2, rfl, h⟩
 rintro e2 w13 ⟨b4, hF, rfl, h⟩
 subst hKF2
 refine qq rfl hF ?_ ?_ <;> intro hF
 ·refine zSR (zp1 rfl (zl 1 2 h rfl (zp1 rfl (zl 0 1 h rfl ?_))))
  obtain ⟨y2, hy2, hF⟩ := qd hF
  have he2 := qg hy2
  obtain ⟨b5, o_2, q2, cs4, hp2, hq2, -, hr7, hc13⟩ := s1.at hy2
  obtain rfl := qbq hr7
  refine zxe hp2 hq2 he2 rfl (zp1 rfl (zc 3 (hc13.below h.below) rfl (zp1 rfl ?_)))
  by_cases hc14 : y2.Clock = true
  ·replace hF := bifT hc14 hF
   exact qC hc14 (t := 98) rfl (qa rfl (zp1 rfl (qa rfl (zl 0 3 h rfl (qa rfl (zp3 rfl (qb (qu qc h hF ⟨rfl, trivial⟩))))))))
  replace hc14 := zb hc14
  replace hF := bifF hc14 hF
  exact qB hc14 (t := 98) rfl (zn3 rfl (zp2 rfl (qb (qu qc h hF ⟨rfl, trivial⟩))))
 exact zKE (zSR (zp1 rfl (qb (qu qc h hF ⟨rfl, trivial⟩))))

def qdE (_ : Nat) (a_o : qac) (v0 : qac) : Option Bool :=
 bif (a_o.Kind == v0.Kind) then
  bif (a_o.From == v0.From) then
   some (a_o.To == v0.To)
  else
   some false
 else
  some false

theorem qiE {n : Nat} {w : World} {a_o : qac} {v0 : qac} {cs1 : List Value} (ha1 : GoT.R w (old w) a_o cs1) {p3 : Option Addr} (ha2 : GoT.R w (old w) (some v0) [.pointer p3]) {r : Bool} (hF : qdE n a_o v0 = some r) : RetV Tryz.prog 183 [GoT.v qac cs1, .pointer p3] w r := by
 obtain ⟨p1, k1, p2, k2, rfl, s1, s2⟩ := qat ha1
 obtain ⟨b1, o_1, cs2, rfl, -, hr1, hc1⟩ := PtR.get ha2 rfl
 obtain ⟨p4, k3, p5, k4, rfl, s3, s4⟩ := qat hr1
 refine qe Tryz.func183 rfl (m := 23) rfl rfl (fun h => ?_)
 rw [qdE] at hF
 refine zSR (qM h rfl rfl ?_)
 intro w1 bb1 h
 refine zp1 rfl (zNSR (zp1 rfl (zl 0 0 h rfl (zp1 rfl (zc 0 (hc1.below h.below) rfl (zp2 rfl ?_))))))
 by_cases hc2 : (a_o.Kind == v0.Kind) = true
 ·replace hF := bifT hc2 hF
  refine qC hc2 (t := 9) rfl (qa rfl (zp1 rfl (qa rfl (zl 0 1 h rfl (qa rfl (zp1 rfl (qa rfl (zc 1 (hc1.below h.below) rfl (qa rfl (zp2 rfl ?_))))))))))
  refine zp1 rfl ?_
  by_cases hc3 : (a_o.From == v0.From) = true
  ·replace hF := bifT hc3 hF
   refine qC hc3 (t := 16) rfl (qa rfl (zp1 rfl (qa rfl (zl 0 2 h rfl (qa rfl (zp1 rfl (qa rfl (zc 2 (hc1.below h.below) rfl (qa rfl (zp2 rfl ?_))))))))))
   exact zp1 rfl (qb (qu qc h hF ⟨rfl, trivial⟩))
  replace hc3 := zb hc3
  replace hF := bifF hc3 hF
  exact qB hc3 (t := 16) rfl (zn5 rfl (zp2 rfl (qb (qu qc h hF ⟨rfl, trivial⟩))))
 replace hc2 := zb hc2
 replace hF := bifF hc2 hF
 refine qB hc2 (t := 9) rfl (zn5 rfl (zp2 rfl (zn4 rfl ?_)))
 exact zn1 rfl (zp2 rfl (qb (qu qc h hF ⟨rfl, trivial⟩)))

def qK (s : (List qac)) (f_0 : qac) : Nat → Int → Option (Flow Int Int)
 | 0, _ => none
 | n + 1, i1 =>
  bif decide (i1 < (s.length : Int)) then
   (idx s i1).bind fun y1 =>
   (qdE n y1 f_0).bind fun r1 =>
   bif r1 then
    some (.ret i1)
   else
    qK s f_0 n (W64 (i1 + 1))
  else
   some (.nxt i1)

def qaG (n : Nat) (s : (List qac)) (f_0 : qac) : Option Int :=
 (qK s f_0 n 0).bind fun o => match o with
 | .ret r => some r
 | .nxt _ =>
  some (-1)

theorem qd5 {n : Nat} {w : World} {s : (List qac)} {f_0 : qac} {cs1 : List Value} (ha1 : GoT.R w (old w) s cs1) {p2 : Option Addr} (ha2 : GoT.R w (old w) (some f_0) [.pointer p2]) {r : Int} (hF : qaG n s f_0 = some r) : RetV Tryz.prog 141 [GoT.v (List qac) cs1, .func (.func 183) #[] #[.pointer p2]] w r := by
 obtain ⟨p1, k1, rfl, s1⟩ := ha1
 obtain ⟨b1, o_1, cs2, rfl, -, hr1, hc1⟩ := PtR.get ha2 rfl
 obtain ⟨p3, k2, p4, k3, rfl, s2, s3⟩ := qat hr1
 refine qe Tryz.func141 rfl (m := 19) rfl rfl (fun h => ?_)
 rw [qaG] at hF
 refine zSR (zp1 rfl (zNSSR (zp3 rfl (qb ?_))))
 obtain ⟨o1, hF, hK1⟩ := qd hF
 refine qz (qT [(0, _), (1, _), (7, _), (8, _)] ⟨rfl, rfl, rfl, rfl, trivial⟩ ?_)
 refine qH (fun m e w' => ∃ (i1 : Int), qK s f_0 m i1 = some o1 ∧ e = [(0, .slice p1 s.length k1), (1, .func (.func 183) #[] #[.pointer (some ⟨b1, o_1, none⟩)]), (7, .int .i64 (s.length : Int)), (8, .int .i64 i1)] ∧ SH w w' []) n ⟨_, hF, rfl, h⟩ ?_
 rintro m1 e1 w1 ⟨i1, hF, rfl, h⟩
 rcases m1 with _ | m1
 ·rw [qK] at hF
  cases hF
 rw [qK] at hF
 refine zSR (zp1 rfl (zNS ?_))
 refine qq rfl hF ?_ ?_ <;> intro hF
 ·refine zKSBSR (zp2 rfl (zNSR (zp2 rfl ?_)))
  refine zp1 rfl ?_
  obtain ⟨y1, hy1, hF⟩ := qd hF
  have he1 := qg hy1
  obtain ⟨b2, o_2, q1, cs3, hp1, hq1, -, hr2, hc3⟩ := s1.at hy1
  obtain ⟨p5, k4, p6, k5, rfl, s4, s5⟩ := qat hr2
  refine zxe hp1 hq1 he1 rfl (zc 0 (hc3.below h.below) rfl ?_)
  obtain ⟨r1, hr3, hF⟩ := qd hF
  refine ql r1 h call183 (qiE (qfq y1 (h.oldS s4) (h.oldS s5)) (h.old ha2) hr3) rfl rfl rfl rfl ?_
  intro w2 h
  refine qb ?_
  refine qq rfl hF ?_ ?_ <;> intro hF
  ·refine zSR (zp2 rfl (qb ?_))
   obtain rfl := qj hF; replace hF := hK1
   exact qaB qc h hF ⟨rfl, trivial⟩
  exact zKER (zp2 rfl (qb (qA m1 [(0, _), (1, _), (7, _), (8, _)] (Nat.lt_succ_self m1) ⟨rfl, rfl, rfl, rfl, trivial⟩ ⟨_, hF, rfl, h⟩)))
 refine qI rfl ?_
 obtain rfl := qj hF; replace hF := hK1
 exact zSR (zp1 rfl (qb (qaB qc h hF ⟨rfl, trivial⟩)))

def qae (n : Nat) (s : (List qac)) (f_0 : qac) : Option Bool :=
 (qaG n s f_0).bind fun r1 =>
 some (decide (r1 ≥ 0))

theorem qdL {n : Nat} {w : World} {s : (List qac)} {f_0 : qac} {cs1 : List Value} (ha1 : GoT.R w (old w) s cs1) {p2 : Option Addr} (ha2 : GoT.R w (old w) (some f_0) [.pointer p2]) {r : Bool} (hF : qae n s f_0 = some r) : RetV Tryz.prog 103 [GoT.v (List qac) cs1, .func (.func 183) #[] #[.pointer p2]] w r := by
 obtain ⟨p1, k1, rfl, s1⟩ := ha1
 obtain ⟨b1, o_1, cs2, rfl, -, hr1, hc1⟩ := PtR.get ha2 rfl
 obtain ⟨p3, k2, p4, k3, rfl, s2, s3⟩ := qat hr1
 refine qe Tryz.func103 rfl (m := 9) rfl rfl (fun h => ?_)
 rw [qae] at hF
 refine zSR (zp1 rfl (zNSR (zp2 rfl ?_)))
 obtain ⟨r1, hr2, hF⟩ := qd hF
 refine qQ r1 h call141 (qd5 ⟨_, _, rfl, (h.oldS s1)⟩ (h.old ha2) hr2) rfl rfl rfl rfl ?_
 intro w1 h
 exact zp2 rfl (qb (qu qc h hF ⟨rfl, trivial⟩))

def qbx (c : qD) : Nat → Int → Option (Flow Bool Int)
 | 0, _ => none
 | n + 1, i1 =>
  bif decide (i1 < (c.Arcs.length : Int)) then
   (idx c.Arcs i1).bind fun y1 =>
   (qe6 n c y1).bind fun r1 =>
   bif (!r1) then
    some (.ret false)
   else
    (subS c.Arcs 0 i1).bind fun x1 =>
    (qae n x1 y1).bind fun r2 =>
    bif r2 then
     some (.ret false)
    else
     qbx c n (W64 (i1 + 1))
  else
   some (.nxt i1)

def qej (n : Nat) (c : qD) : Option Bool :=
 (qbx c n 0).bind fun o => match o with
 | .ret r => some r
 | .nxt _ =>
  some (decide ((c.Arcs.length : Int) ≤ 8))

theorem qjk {n : Nat} {w : World} {c : qD} {cs1 : List Value} (ha1 : GoT.R w (old w) c cs1) {r : Bool} (hF : qej n c = some r) : RetV Tryz.prog 172 [GoT.v qD cs1] w r := by
 obtain ⟨p1, k1, p2, k2, p3, k3, rfl, s1, s2, s3⟩ := qV ha1
 refine qe Tryz.func172 rfl (m := 30) rfl rfl (fun h => ?_)
 rw [qej] at hF
 refine zSR (qM h rfl rfl ?_)
 intro w1 bb1 h
 refine zp1 rfl (zNSSR (zp1 rfl (zl 0 3 h rfl (zp2 rfl (qb ?_)))))
 obtain ⟨o1, hF, hK1⟩ := qd hF
 refine qz (qT [(1, _), (6, _), (7, _), (8, _)] ⟨rfl, rfl, rfl, rfl, trivial⟩ ?_)
 refine qH (fun m e w' => ∃ (i1 : Int), qbx c m i1 = some o1 ∧ e = [(1, .pointer (some ⟨bb1, 0, none⟩)), (6, .slice p2 c.Arcs.length k2), (7, .int .i64 (c.Arcs.length : Int)), (8, .int .i64 i1)] ∧ SH w w' [Ch.box bb1 [.string c.Name, .int .i64 c.Kind, .slice p1 c.Pins.length k1, .slice p2 c.Arcs.length k2, .slice p3 c.Truth.length k3, .int .i64 c.Leak, .int .i64 c.Energy] 155]) n ⟨_, hF, rfl, h⟩ ?_
 rintro m1 e1 w2 ⟨i1, hF, rfl, h⟩
 rcases m1 with _ | m1
 ·rw [qbx] at hF
  cases hF
 rw [qbx] at hF
 refine zSR (zp1 rfl (zNS ?_))
 refine qq rfl hF ?_ ?_ <;> intro hF
 ·refine zKSBSR (zp1 rfl ?_)
  obtain ⟨y1, hy1, hF⟩ := qd hF
  have he1 := qg hy1
  obtain ⟨b1, o_1, q1, cs2, hp1, hq1, -, hr1, hc2⟩ := s2.at hy1
  obtain ⟨p4, k4, p5, k5, rfl, s4, s5⟩ := qat hr1
  refine zxe hp1 hq1 he1 rfl (zc 0 (hc2.below h.below) rfl (qU qc h rfl rfl rfl ?_))
  intro w3 bb2 h
  refine zp1 rfl (zs 0 h rfl ?_)
  intro w4 h
  refine zNSR (zl 1 0 h rfl (zl 0 0 h rfl ?_))
  obtain ⟨r1, hr2, hF⟩ := qd hF
  refine ql r1 h call182 (qjO (h.old ha1) (qfq y1 (h.oldS s4) (h.oldS s5)) hr2) rfl rfl rfl rfl ?_
  intro w5 h
  refine zp2 rfl ?_
  by_cases hc3 : (!r1) = true
  ·replace hF := bifT hc3 hF
   refine qC hc3 (t := 17) rfl (zn5 rfl (zn1 rfl (zp1 rfl (qb (qef rfl rfl (zSR ?_))))))
   refine zp1 rfl (qb ?_)
   obtain rfl := qj hF; replace hF := hK1
   exact qu qc h hF ⟨rfl, trivial⟩
  replace hc3 := zb hc3
  replace hF := bifF hc3 hF
  refine qB hc3 (t := 17) rfl (qa rfl (zp1 rfl (qa rfl (zl 1 3 h rfl (qa rfl (zp1 rfl (qa rfl ?_)))))))
  obtain ⟨x1, hx1, hF⟩ := qd hF
  obtain ⟨p6, k6, hp2, hk1, hl1, g1⟩ := qoa (h.oldS s2) hx1
  refine r_v (qlq qc rfl rfl rfl (qnV g1 rfl) hp2 hk1 hl1 rfl rfl rfl rfl) rfl ?_
  have s6 := qnK s2 hx1 hp2 hk1
  refine qa rfl (zp1 rfl (qa rfl ?_))
  obtain ⟨r2, hr3, hF⟩ := qd hF
  refine ql r2 h call103 (qdL ⟨_, _, rfl, (h.oldS s6)⟩ (qhJ (x := y1) 0 h rfl (qfq y1 (h.oldS s4) (h.oldS s5))) hr3) rfl rfl rfl rfl ?_
  intro w6 h
  refine zp1 rfl (qb ?_)
  refine qq rfl hF ?_ ?_ <;> intro hF
  ·refine zSR (zp1 rfl (qb ?_))
   obtain rfl := qj hF; replace hF := hK1
   exact qu qc h hF ⟨rfl, trivial⟩
  refine zKER (zp2 rfl (qb ?_))
  replace h := h.pick [1] rfl
  exact qA m1 [(1, _), (6, _), (7, _), (8, _)] (Nat.lt_succ_self m1) ⟨rfl, rfl, rfl, rfl, trivial⟩ ⟨_, hF, rfl, h⟩
 refine qI rfl ?_
 obtain rfl := qj hF; replace hF := hK1
 exact zSR (zp1 rfl (zl 0 3 h rfl (zp3 rfl (qb (qu qc h hF ⟨rfl, trivial⟩)))))

def qf3 (_ : Nat) (a : qac) (v0 : Int) : Option Bool :=
 some (a.Kind == v0)

theorem qjN {n : Nat} {w : World} {a : qac} {v0 : Int} {cs1 : List Value} (ha1 : GoT.R w (old w) a cs1) {p3 : Option Addr} (ha2 : GoT.R w (old w) (some v0) [.pointer p3]) {r : Bool} (hF : qf3 n a v0 = some r) : RetV Tryz.prog 202 [GoT.v qac cs1, .pointer p3] w r := by
 obtain ⟨p1, k1, p2, k2, rfl, s1, s2⟩ := qat ha1
 obtain ⟨b1, o_1, cs2, rfl, -, hr1, hc1⟩ := PtR.get ha2 rfl
 obtain rfl := hr1
 refine qe Tryz.func202 rfl (m := 8) rfl rfl (fun h => ?_)
 rw [qf3] at hF
 refine zSR (qM h rfl rfl ?_)
 intro w1 bb1 h
 exact zp1 rfl (zNSR (zp1 rfl (zl 0 0 h rfl (zc 0 (hc1.below h.below) rfl (zp2 rfl (qb (qu qc h hF ⟨rfl, trivial⟩)))))))

def qO (s : (List qac)) (f_0 : Int) : Nat → Int → Option (Flow Int Int)
 | 0, _ => none
 | n + 1, i1 =>
  bif decide (i1 < (s.length : Int)) then
   (idx s i1).bind fun y1 =>
   (qf3 n y1 f_0).bind fun r1 =>
   bif r1 then
    some (.ret i1)
   else
    qO s f_0 n (W64 (i1 + 1))
  else
   some (.nxt i1)

def qaZ (n : Nat) (s : (List qac)) (f_0 : Int) : Option Int :=
 (qO s f_0 n 0).bind fun o => match o with
 | .ret r => some r
 | .nxt _ =>
  some (-1)

theorem qeK {n : Nat} {w : World} {s : (List qac)} {f_0 : Int} {cs1 : List Value} (ha1 : GoT.R w (old w) s cs1) {p2 : Option Addr} (ha2 : GoT.R w (old w) (some f_0) [.pointer p2]) {r : Int} (hF : qaZ n s f_0 = some r) : RetV Tryz.prog 141 [GoT.v (List qac) cs1, .func (.func 202) #[] #[.pointer p2]] w r := by
 obtain ⟨p1, k1, rfl, s1⟩ := ha1
 obtain ⟨b1, o_1, cs2, rfl, -, hr1, hc1⟩ := PtR.get ha2 rfl
 obtain rfl := hr1
 refine qe Tryz.func141 rfl (m := 19) rfl rfl (fun h => ?_)
 rw [qaZ] at hF
 refine zSR (zp1 rfl (zNSSR (zp3 rfl (qb ?_))))
 obtain ⟨o1, hF, hK1⟩ := qd hF
 refine qz (qT [(0, _), (1, _), (7, _), (8, _)] ⟨rfl, rfl, rfl, rfl, trivial⟩ ?_)
 refine qH (fun m e w' => ∃ (i1 : Int), qO s f_0 m i1 = some o1 ∧ e = [(0, .slice p1 s.length k1), (1, .func (.func 202) #[] #[.pointer (some ⟨b1, o_1, none⟩)]), (7, .int .i64 (s.length : Int)), (8, .int .i64 i1)] ∧ SH w w' []) n ⟨_, hF, rfl, h⟩ ?_
 rintro m1 e1 w1 ⟨i1, hF, rfl, h⟩
 rcases m1 with _ | m1
 ·rw [qO] at hF
  cases hF
 rw [qO] at hF
 refine zSR (zp1 rfl (zNS ?_))
 refine qq rfl hF ?_ ?_ <;> intro hF
 ·refine zKSBSR (zp2 rfl (zNSR (zp2 rfl ?_)))
  refine zp1 rfl ?_
  obtain ⟨y1, hy1, hF⟩ := qd hF
  have he1 := qg hy1
  obtain ⟨b2, o_2, q1, cs3, hp1, hq1, -, hr2, hc3⟩ := s1.at hy1
  obtain ⟨p3, k2, p4, k3, rfl, s2, s3⟩ := qat hr2
  refine zxe hp1 hq1 he1 rfl (zc 0 (hc3.below h.below) rfl ?_)
  obtain ⟨r1, hr3, hF⟩ := qd hF
  refine ql r1 h call202 (qjN (qfq y1 (h.oldS s2) (h.oldS s3)) (h.old ha2) hr3) rfl rfl rfl rfl ?_
  intro w2 h
  refine qb ?_
  refine qq rfl hF ?_ ?_ <;> intro hF
  ·refine zSR (zp2 rfl (qb ?_))
   obtain rfl := qj hF; replace hF := hK1
   exact qaB qc h hF ⟨rfl, trivial⟩
  exact zKER (zp2 rfl (qb (qA m1 [(0, _), (1, _), (7, _), (8, _)] (Nat.lt_succ_self m1) ⟨rfl, rfl, rfl, rfl, trivial⟩ ⟨_, hF, rfl, h⟩)))
 refine qI rfl ?_
 obtain rfl := qj hF; replace hF := hK1
 exact zSR (zp1 rfl (qb (qaB qc h hF ⟨rfl, trivial⟩)))

def qaH (n : Nat) (s : (List qac)) (f_0 : Int) : Option Bool :=
 (qaZ n s f_0).bind fun r1 =>
 some (decide (r1 ≥ 0))

theorem qeh {n : Nat} {w : World} {s : (List qac)} {f_0 : Int} {cs1 : List Value} (ha1 : GoT.R w (old w) s cs1) {p2 : Option Addr} (ha2 : GoT.R w (old w) (some f_0) [.pointer p2]) {r : Bool} (hF : qaH n s f_0 = some r) : RetV Tryz.prog 103 [GoT.v (List qac) cs1, .func (.func 202) #[] #[.pointer p2]] w r := by
 obtain ⟨p1, k1, rfl, s1⟩ := ha1
 obtain ⟨b1, o_1, cs2, rfl, -, hr1, hc1⟩ := PtR.get ha2 rfl
 obtain rfl := hr1
 refine qe Tryz.func103 rfl (m := 9) rfl rfl (fun h => ?_)
 rw [qaH] at hF
 refine zSR (zp1 rfl (zNSR (zp2 rfl ?_)))
 obtain ⟨r1, hr2, hF⟩ := qd hF
 refine qQ r1 h call141 (qeK ⟨_, _, rfl, (h.oldS s1)⟩ (h.old ha2) hr2) rfl rfl rfl rfl ?_
 intro w1 h
 exact zp2 rfl (qb (qu qc h hF ⟨rfl, trivial⟩))

def qcB (n : Nat) (c : qD) (kind : Int) : Option Bool :=
 (qaH n c.Arcs kind).bind fun r1 =>
 some r1

theorem qdN {n : Nat} {w : World} {c : qD} {kind : Int} {cs1 : List Value} (ha1 : GoT.R w (old w) c cs1) {r : Bool} (hF : qcB n c kind = some r) : RetV Tryz.prog 184 [GoT.v qD cs1, .int .i64 kind] w r := by
 obtain ⟨p1, k1, p2, k2, p3, k3, rfl, s1, s2, s3⟩ := qV ha1
 refine qe Tryz.func184 rfl (m := 9) rfl rfl (fun h => ?_)
 rw [qcB] at hF
 refine zSR (qM h rfl rfl ?_)
 intro w1 bb1 h
 refine qM h rfl rfl ?_
 intro w2 bb2 h
 refine zp1 rfl (zNSR (zp1 rfl (zl 1 3 h rfl (zp1 rfl ?_))))
 obtain ⟨r1, hr1, hF⟩ := qd hF
 refine ql r1 h call103 (qeh ⟨_, _, rfl, (h.oldS s2)⟩ (qhJ (x := kind) 0 h rfl rfl) hr1) rfl rfl rfl rfl ?_
 intro w3 h
 exact zp1 rfl (qb (qu qc h hF ⟨rfl, trivial⟩))

def qaK (a_0 : qD) : Nat → Int → Int → Option (Int × Int)
 | 0, _, _ => none
 | n + 1, i1, i2 =>
  bif decide (i2 < (a_0.Pins.length : Int)) then
   (idx a_0.Pins i2).bind fun y1 =>
   bif y1.Clock then
    qaK a_0 n (W64 (i1 + 1)) (W64 (i2 + 1))
   else
    qaK a_0 n i1 (W64 (i2 + 1))
  else
   some (i1, i2)

def qdW (n : Nat) (a_0 : qD) : Option Bool :=
 (qaK a_0 n 0 0).bind fun o => match o with
 | (i1, _) =>
  bif (a_0.Kind == 1) then
   bif (i1 == 0) then
    (qb4 n a_0).bind fun r1 =>
    (shlS 1 r1).bind fun y2 =>
    bif ((a_0.Truth.length : Int) == y2) then
     (qbs n a_0.Truth 0 1).bind fun r2 =>
     some r2
    else
     some false
   else
    some false
  else
   bif (a_0.Kind == 2) then
    bif (i1 == 1) then
     bif ((a_0.Truth.length : Int) == 0) then
      (qcB n a_0 1).bind fun r3 =>
      bif (!r3) then
       (qcB n a_0 2).bind fun r4 =>
       (qcB n a_0 3).bind fun r5 =>
       some (!(r4 == r5))
      else
       some false
     else
      some false
    else
     some false
   else
    bif (a_0.Kind == 3) then
     bif (i1 == 1) then
      bif ((a_0.Truth.length : Int) == 0) then
       (qcB n a_0 1).bind fun r6 =>
       bif r6 then
        (qcB n a_0 2).bind fun r7 =>
        bif r7 then
         (qcB n a_0 3).bind fun r8 =>
         some (!r8)
        else
         some false
       else
        some false
      else
       some false
     else
      some false
    else
     some false

theorem qiU {n : Nat} {w : World} {a_0 : qD} {cs1 : List Value} (ha1 : GoT.R w (old w) a_0 cs1) {r : Bool} (hF : qdW n a_0 = some r) : RetV Tryz.prog 173 [GoT.v qD cs1] w r := by
 obtain ⟨p1, k1, p2, k2, p3, k3, rfl, s1, s2, s3⟩ := qV ha1
 refine qe Tryz.func173 rfl (m := 83) rfl rfl (fun h => ?_)
 rw [qdW] at hF
 refine zSR (qM h rfl rfl ?_)
 intro w1 bb1 h
 refine zp1 rfl (zNSR (zp1 rfl (zNSSR (zp1 rfl (zl 0 2 h rfl (zp1 rfl ?_))))))
 refine zp1 rfl (qb ?_)
 obtain ⟨o1, hF, hK1⟩ := qd hF
 refine qz (qT [(1, _), (3, _), (7, _), (8, _), (9, _)] ⟨rfl, rfl, rfl, rfl, rfl, trivial⟩ ?_)
 refine qH (fun m e w' => ∃ (i1 : Int) (i2 : Int), qaK a_0 m i1 i2 = some o1 ∧ e = [(1, .pointer (some ⟨bb1, 0, none⟩)), (3, .int .i64 i1), (7, .slice p1 a_0.Pins.length k1), (8, .int .i64 (a_0.Pins.length : Int)), (9, .int .i64 i2)] ∧ SH w w' [Ch.box bb1 [.string a_0.Name, .int .i64 a_0.Kind, .slice p1 a_0.Pins.length k1, .slice p2 a_0.Arcs.length k2, .slice p3 a_0.Truth.length k3, .int .i64 a_0.Leak, .int .i64 a_0.Energy] 155]) n ⟨_, _, hF, rfl, h⟩ ?_
 rintro m1 e1 w2 ⟨i1, i2, hF, rfl, h⟩
 rcases m1 with _ | m1
 ·rw [qaK] at hF
  cases hF
 rw [qaK] at hF
 refine zSR (zp1 rfl (zNS ?_))
 refine qq rfl hF ?_ ?_ <;> intro hF
 ·refine zKSBSR ?_
  obtain ⟨y1, hy1, hF⟩ := qd hF
  have he1 := qg hy1
  obtain ⟨b1, o_1, q1, cs2, hp1, hq1, -, hr1, hc2⟩ := s1.at hy1
  obtain rfl := qbq hr1
  refine zxe hp1 hq1 he1 rfl (zc 0 (hc2.below h.below) rfl (qU qc h rfl rfl rfl ?_))
  intro w3 bb2 h
  refine zs 0 h rfl ?_
  intro w4 h
  refine zNSR (zp1 rfl (zl 0 3 h rfl (qb ?_)))
  refine qq rfl hF ?_ ?_ <;> intro hF
  ·refine qE (zp3 rfl (zNER (zp2 rfl (qb ?_))))
   replace h := h.pick [1] rfl
   exact qA m1 [(1, _), (3, _), (7, _), (8, _), (9, _)] (Nat.lt_succ_self m1) ⟨rfl, rfl, rfl, rfl, rfl, trivial⟩ ⟨_, _, hF, rfl, h⟩
  refine zKER (zp2 rfl (qb ?_))
  replace h := h.pick [1] rfl
  exact qA m1 [(1, _), (3, _), (7, _), (8, _), (9, _)] (Nat.lt_succ_self m1) ⟨rfl, rfl, rfl, rfl, rfl, trivial⟩ ⟨_, _, hF, rfl, h⟩
 refine qI rfl ?_
 obtain rfl := qj hF; replace hF := hK1
 refine zSSR (zp1 rfl (zl 0 1 h rfl (qb (zBSR (zp2 rfl (qb ?_))))))
 refine qq rfl hF ?_ ?_ <;> intro hF
 ·refine qbn ?_
  refine qco rfl (by kernel_rfl) ?_
  refine zd3 rfl ?_
  by_cases hc5 : (i1 == 0) = true
  ·replace hF := bifT hc5 hF
   refine qb0 hc5 (t := 24) rfl (qf rfl (zd1 rfl (qf rfl ?_)))
   refine zdl 0 4 h rfl ?_
   refine qf rfl (zd1 rfl (qf rfl ?_))
   refine zdl 0 0 h rfl ?_
   refine qf rfl ?_
   obtain ⟨r1, hr2, hF⟩ := qd hF
   refine qcf r1 (vsI _) call106 (fun _ hb => qev ((h.ext hb).old ha1) hr2) rfl rfl rfl rfl ?_
   refine qf rfl ?_
   obtain ⟨y2, hx1, hF⟩ := qd hF
   obtain ⟨g1, hx1⟩ := qmH hx1
   refine d_v (fun _ hb => qqH g1 rfl rfl) rfl ?_
   rw [hx1]
   refine qf rfl (zd3 rfl ?_)
   by_cases hc6 : ((a_0.Truth.length : Int) == y2) = true
   ·replace hF := bifT hc6 hF
    refine qb0 hc6 (t := 33) rfl (qf rfl (zd1 rfl (qf rfl ?_)))
    refine zdl 0 4 h rfl ?_
    refine qf rfl ?_
    obtain ⟨r2, hr3, hF⟩ := qd hF
    refine qcf r2 (vsB _) call82 (fun _ hb => qb9 ⟨_, _, rfl, ((h.ext hb).oldS s3)⟩ hr3) rfl rfl rfl rfl ?_
    refine zd2 rfl ?_
    refine qaX (fun w5 hb => ?_)
    replace h := h.ext hb
    clear hb
    exact qu qc h hF ⟨rfl, trivial⟩
   replace hc6 := zb hc6
   replace hF := bifF hc6 hF
   refine qb3 hc6 (t := 33) rfl (qh rfl rfl rfl (qh rfl rfl rfl (qh rfl rfl rfl (zd2 rfl ?_))))
   refine qaX (fun w6 hb => ?_)
   replace h := h.ext hb
   clear hb
   exact qu qc h hF ⟨rfl, trivial⟩
  replace hc5 := zb hc5
  replace hF := bifF hc5 hF
  refine qb3 hc5 (t := 24) rfl (qh rfl rfl rfl (qh rfl rfl rfl (qh rfl rfl rfl (qh rfl rfl rfl (qh rfl rfl rfl (qh rfl rfl rfl (qh rfl rfl rfl (zd2 rfl (qh rfl rfl rfl (qh rfl rfl rfl ?_))))))))))
  refine qh rfl rfl rfl (zd2 rfl ?_)
  refine qaX (fun w7 hb => ?_)
  replace h := h.ext hb
  clear hb
  exact qu qc h hF ⟨rfl, trivial⟩
 refine zSR (zp2 rfl (qb ?_))
 refine qq rfl hF ?_ ?_ <;> intro hF
 ·refine qbn ?_
  refine qco rfl (by kernel_rfl) ?_
  refine zd3 rfl ?_
  by_cases hc8 : (i1 == 1) = true
  ·replace hF := bifT hc8 hF
   refine qb0 hc8 (t := 42) rfl (qf rfl (zd1 rfl (qf rfl ?_)))
   refine zdl 0 4 h rfl ?_
   refine qf rfl (zd1 rfl (qf rfl (zd3 rfl ?_)))
   by_cases hc9 : ((a_0.Truth.length : Int) == 0) = true
   ·replace hF := bifT hc9 hF
    refine qb0 hc9 (t := 48) rfl (qf rfl ?_)
    refine zdl 0 0 h rfl ?_
    refine qf rfl ?_
    obtain ⟨r3, hr4, hF⟩ := qd hF
    refine qcf r3 (vsB _) call184 (fun _ hb => qdN ((h.ext hb).old ha1) hr4) rfl rfl rfl rfl ?_
    refine qf rfl (zd3 rfl ?_)
    by_cases hc10 : (!r3) = true
    ·replace hF := bifT hc10 hF
     refine qb0 hc10 (t := 53) rfl (qf rfl ?_)
     refine zdl 0 0 h rfl ?_
     refine qf rfl ?_
     obtain ⟨r4, hr5, hF⟩ := qd hF
     refine qcf r4 (vsB _) call184 (fun _ hb => qdN ((h.ext hb).old ha1) hr5) rfl rfl rfl rfl ?_
     refine qf rfl ?_
     refine zdl 0 0 h rfl ?_
     refine qf rfl ?_
     obtain ⟨r5, hr6, hF⟩ := qd hF
     refine qcf r5 (vsB _) call184 (fun _ hb => qdN ((h.ext hb).old ha1) hr6) rfl rfl rfl rfl ?_
     refine qf rfl (zd3 rfl ?_)
     refine qaX (fun w8 hb => ?_)
     replace h := h.ext hb
     clear hb
     exact qu qc h hF ⟨rfl, trivial⟩
    replace hc10 := zb hc10
    replace hF := bifF hc10 hF
    refine qb3 hc10 (t := 53) rfl (qh rfl rfl rfl (qh rfl rfl rfl (qh rfl rfl rfl (qh rfl rfl rfl (qh rfl rfl rfl (zd2 rfl ?_))))))
    refine qaX (fun w9 hb => ?_)
    replace h := h.ext hb
    clear hb
    exact qu qc h hF ⟨rfl, trivial⟩
   replace hc9 := zb hc9
   replace hF := bifF hc9 hF
   refine qb3 hc9 (t := 48) rfl (qh rfl rfl rfl (qh rfl rfl rfl (qh rfl rfl rfl (zd2 rfl (qh rfl rfl rfl (qh rfl rfl rfl (qh rfl rfl rfl (qh rfl rfl rfl (qh rfl rfl rfl (zd1 rfl ?_))))))))))
   refine zd1 rfl ?_
   refine qaX (fun w10 hb => ?_)
   replace h := h.ext hb
   clear hb
   exact qu qc h hF ⟨rfl, trivial⟩
  replace hc8 := zb hc8
  replace hF := bifF hc8 hF
  refine qb3 hc8 (t := 42) rfl (qh rfl rfl rfl (qh rfl rfl rfl (qh rfl rfl rfl (qh rfl rfl rfl (zd2 rfl (qh rfl rfl rfl (qh rfl rfl rfl (qh rfl rfl rfl (zd2 rfl ?_)))))))))
  refine qh rfl rfl rfl (qh rfl rfl rfl (qh rfl rfl rfl (qh rfl rfl rfl (qh rfl rfl rfl (zd2 rfl ?_)))))
  refine qaX (fun w11 hb => ?_)
  replace h := h.ext hb
  clear hb
  exact qu qc h hF ⟨rfl, trivial⟩
 refine zSR (zp2 rfl (qb ?_))
 refine qq rfl hF ?_ ?_ <;> intro hF
 ·refine zSR (zp3 rfl ?_)
  by_cases hc12 : (i1 == 1) = true
  ·replace hF := bifT hc12 hF
   refine qC hc12 (t := 64) rfl (qa rfl (zp1 rfl (qa rfl (zl 0 4 h rfl (qa rfl (zp1 rfl (qa rfl (zp3 rfl ?_))))))))
   by_cases hc13 : ((a_0.Truth.length : Int) == 0) = true
   ·replace hF := bifT hc13 hF
    refine qC hc13 (t := 70) rfl (qa rfl (zl 0 0 h rfl (qa rfl ?_)))
    obtain ⟨r6, hr7, hF⟩ := qd hF
    refine ql r6 h call184 (qdN (h.old ha1) hr7) rfl rfl rfl rfl ?_
    intro w12 h
    refine zp2 rfl ?_
    by_cases hc14 : r6 = true
    ·replace hF := bifT hc14 hF
     refine qC hc14 (t := 74) rfl (qa rfl (zl 0 0 h rfl (qa rfl ?_)))
     obtain ⟨r7, hr8, hF⟩ := qd hF
     refine ql r7 h call184 (qdN (h.old ha1) hr8) rfl rfl rfl rfl ?_
     intro w13 h
     refine zp2 rfl ?_
     by_cases hc15 : r7 = true
     ·replace hF := bifT hc15 hF
      refine qC hc15 (t := 78) rfl (qa rfl (zl 0 0 h rfl (qa rfl ?_)))
      obtain ⟨r8, hr9, hF⟩ := qd hF
      refine ql r8 h call184 (qdN (h.old ha1) hr9) rfl rfl rfl rfl ?_
      intro w14 h
      exact qa rfl (zp3 rfl (qb (qu qc h hF ⟨rfl, trivial⟩)))
     replace hc15 := zb hc15
     replace hF := bifF hc15 hF
     exact qB hc15 (t := 78) rfl (zn3 rfl (zp2 rfl (qb (qu qc h hF ⟨rfl, trivial⟩))))
    replace hc14 := zb hc14
    replace hF := bifF hc14 hF
    exact qB hc14 (t := 74) rfl (zn2 rfl (zp2 rfl (zn3 rfl (zp2 rfl (qb (qu qc h hF ⟨rfl, trivial⟩))))))
   replace hc13 := zb hc13
   replace hF := bifF hc13 hF
   refine qB hc13 (t := 70) rfl (zn2 rfl (zp2 rfl (zn2 rfl (zp2 rfl (zn3 rfl ?_)))))
   exact zp2 rfl (qb (qu qc h hF ⟨rfl, trivial⟩))
  replace hc12 := zb hc12
  replace hF := bifF hc12 hF
  refine qB hc12 (t := 64) rfl (zn4 rfl (zp2 rfl (zn2 rfl (zp2 rfl (zn1 rfl ?_)))))
  exact zn1 rfl (zp2 rfl (zn3 rfl (zp2 rfl (qb (qu qc h hF ⟨rfl, trivial⟩)))))
 exact zKE (zSR (zp1 rfl (qb (qu qc h hF ⟨rfl, trivial⟩))))

def qhj (n : Nat) (c : qD) : Option Bool :=
 (qgh n c.Name).bind fun r1 =>
 bif r1 then
  (qgy n c.Pins).bind fun r2 =>
  bif r2 then
   (qej n c).bind fun r3 =>
   bif r3 then
    (qaM n c.Leak 0 100000).bind fun r4 =>
    bif r4 then
     (qaM n c.Energy 0 100000).bind fun r5 =>
     bif r5 then
      (qdW n c).bind fun r6 =>
      some r6
     else
      some false
    else
     some false
   else
    some false
  else
   some false
 else
  some false

theorem qlw {n : Nat} {w : World} {c : qD} {cs1 : List Value} (ha1 : GoT.R w (old w) c cs1) {r : Bool} (hF : qhj n c = some r) : RetV Tryz.prog 153 [GoT.v qD cs1] w r := by
 obtain ⟨p1, k1, p2, k2, p3, k3, rfl, s1, s2, s3⟩ := qV ha1
 refine qe Tryz.func153 rfl (m := 29) rfl rfl (fun h => ?_)
 rw [qhj] at hF
 refine zSR (qM h rfl rfl ?_)
 intro w1 bb1 h
 refine zp1 rfl (zNSR (zp1 rfl (zl 0 0 h rfl ?_)))
 obtain ⟨r1, hr1, hF⟩ := qd hF
 refine ql r1 h call170 (qja hr1) rfl rfl rfl rfl ?_
 intro w2 h
 refine zp1 rfl ?_
 by_cases hc1 : r1 = true
 ·replace hF := bifT hc1 hF
  refine qC hc1 (t := 6) rfl (qa rfl (zp1 rfl (qa rfl (zl 0 2 h rfl (qa rfl ?_)))))
  obtain ⟨r2, hr2, hF⟩ := qd hF
  refine ql r2 h call171 (qkY ⟨_, _, rfl, (h.oldS s1)⟩ hr2) rfl rfl rfl rfl ?_
  intro w3 h
  refine zp2 rfl ?_
  by_cases hc2 : r2 = true
  ·replace hF := bifT hc2 hF
   refine qC hc2 (t := 11) rfl (qa rfl (zl 0 0 h rfl (qa rfl ?_)))
   obtain ⟨r3, hr3, hF⟩ := qd hF
   refine ql r3 h call172 (qjk (h.old ha1) hr3) rfl rfl rfl rfl ?_
   intro w4 h
   refine zp2 rfl ?_
   by_cases hc3 : r3 = true
   ·replace hF := bifT hc3 hF
    refine qC hc3 (t := 15) rfl (qa rfl (zp1 rfl (qa rfl (zl 0 5 h rfl (qa rfl ?_)))))
    obtain ⟨r4, hr4, hF⟩ := qd hF
    refine ql r4 h call100 (qaw hr4) rfl rfl rfl rfl ?_
    intro w5 h
    refine zp2 rfl ?_
    by_cases hc4 : r4 = true
    ·replace hF := bifT hc4 hF
     refine qC hc4 (t := 20) rfl (qa rfl (zp1 rfl (qa rfl (zl 0 6 h rfl (qa rfl ?_)))))
     obtain ⟨r5, hr5, hF⟩ := qd hF
     refine ql r5 h call100 (qaw hr5) rfl rfl rfl rfl ?_
     intro w6 h
     refine zp2 rfl ?_
     by_cases hc5 : r5 = true
     ·replace hF := bifT hc5 hF
      refine qC hc5 (t := 25) rfl (qa rfl (zl 0 0 h rfl (qa rfl ?_)))
      obtain ⟨r6, hr6, hF⟩ := qd hF
      refine ql r6 h call173 (qiU (h.old ha1) hr6) rfl rfl rfl rfl ?_
      intro w7 h
      exact zp2 rfl (qb (qu qc h hF ⟨rfl, trivial⟩))
     replace hc5 := zb hc5
     replace hF := bifF hc5 hF
     exact qB hc5 (t := 25) rfl (zn2 rfl (zp2 rfl (qb (qu qc h hF ⟨rfl, trivial⟩))))
    replace hc4 := zb hc4
    replace hF := bifF hc4 hF
    exact qB hc4 (t := 20) rfl (zn3 rfl (zp2 rfl (zn2 rfl (zp2 rfl (qb (qu qc h hF ⟨rfl, trivial⟩))))))
   replace hc3 := zb hc3
   replace hF := bifF hc3 hF
   refine qB hc3 (t := 15) rfl (zn3 rfl (zp2 rfl (zn3 rfl (zp2 rfl (zn1 rfl ?_)))))
   exact zn1 rfl (zp2 rfl (qb (qu qc h hF ⟨rfl, trivial⟩)))
  replace hc2 := zb hc2
  replace hF := bifF hc2 hF
  refine qB hc2 (t := 11) rfl (zn2 rfl (zp2 rfl (zn3 rfl (zp2 rfl (zn2 rfl ?_)))))
  exact zn1 rfl (zp2 rfl (zn2 rfl (zp2 rfl (qb (qu qc h hF ⟨rfl, trivial⟩)))))
 replace hc1 := zb hc1
 replace hF := bifF hc1 hF
 refine qB hc1 (t := 6) rfl (zn3 rfl (zp2 rfl (zn2 rfl (zp2 rfl (zn2 rfl ?_)))))
 refine zn1 rfl (zp2 rfl (zn3 rfl (zp2 rfl (zn2 rfl (zp2 rfl ?_)))))
 exact qb (qu qc h hF ⟨rfl, trivial⟩)

def qbN (l : qt) : Nat → (List ByteArray) → Int → Option (Flow Bool ((List ByteArray) × Int))
 | 0, _, _ => none
 | n + 1, x1, i1 =>
  bif decide (i1 < (l.Cells.length : Int)) then
   (idx l.Cells i1).bind fun y1 =>
   (qhj n y1).bind fun r1 =>
   bif (!r1) then
    some (.ret false)
   else
    (appS x1 ([y1.Name] : List ByteArray)).bind fun x2 =>
    qbN l n x2 (W64 (i1 + 1))
  else
   some (.nxt (x1, i1))

def qfp (n : Nat) (l : qt) : Option Bool :=
 (qbN l n ([] : List ByteArray) 0).bind fun o => match o with
 | .ret r => some r
 | .nxt (x1, _) =>
  bif decide ((l.Cells.length : Int) ≤ 8) then
   (qdd n x1).bind fun r2 =>
   some r2
  else
   some false

theorem qj6 {n : Nat} {w : World} {l : qt} {cs1 : List Value} (ha1 : GoT.R w (old w) l cs1) {r : Bool} (hF : qfp n l = some r) : RetV Tryz.prog 124 [GoT.v qt cs1] w r := by
 obtain ⟨p1, k1, rfl, s1⟩ := qbu ha1
 refine qe Tryz.func124 rfl (m := 30) rfl rfl (fun h => ?_)
 rw [qfp] at hF
 refine zSR (qM h rfl rfl ?_)
 intro w1 bb1 h
 refine zp1 rfl (zNSR (zp1 rfl (zNSSR (zp1 rfl (zl 0 0 h rfl (zp1 rfl ?_))))))
 refine zp1 rfl (qb ?_)
 replace h := h.nil (α := ByteArray)
 obtain ⟨o1, hF, hK1⟩ := qd hF
 refine qz (qT [(1, _), (3, _), (7, _), (8, _), (9, _)] ⟨rfl, rfl, rfl, rfl, rfl, trivial⟩ ?_)
 refine qH (fun m e w' => ∃ (S1 : Nat → Prop) (p2 : Option Addr) (ln1 : Nat) (k2 : Nat) (x1 : (List ByteArray)) (i1 : Int), qbN l m x1 i1 = some o1 ∧ e = [(1, .pointer (some ⟨bb1, 0, none⟩)), (3, .slice p2 ln1 k2), (7, .slice p1 l.Cells.length k1), (8, .int .i64 (l.Cells.length : Int)), (9, .int .i64 i1)] ∧ SH w w' [Ch.own S1 (x1 : List ByteArray) [.slice p2 ln1 k2], Ch.box bb1 [.slice p1 l.Cells.length k1] 41]) n ⟨_, _, _, _, _, _, hF, rfl, h⟩ ?_
 rintro m1 e1 w2 ⟨S1, p2, ln1, k2, x1, i1, hF, rfl, h⟩
 obtain rfl := (h.sl 0 rfl).2
 rcases m1 with _ | m1
 ·rw [qbN] at hF
  cases hF
 rw [qbN] at hF
 refine zSR (zp1 rfl (zNS ?_))
 refine qq rfl hF ?_ ?_ <;> intro hF
 ·refine zKSBSR ?_
  obtain ⟨y1, hy1, hF⟩ := qd hF
  have he1 := qg hy1
  obtain ⟨b1, o_1, q1, cs2, hp1, hq1, -, hr1, hc2⟩ := s1.at hy1
  obtain ⟨p3, k3, p4, k4, p5, k5, rfl, s2, s3, s4⟩ := qV hr1
  refine zxe hp1 hq1 he1 rfl (zc 0 (hc2.below h.below) rfl (qU qc h rfl rfl rfl ?_))
  intro w3 bb2 h
  refine zs 0 h rfl ?_
  intro w4 h
  replace h : SH _ _ [Ch.box bb2 [.string y1.Name, .int .i64 y1.Kind, .slice p3 y1.Pins.length k3, .slice p4 y1.Arcs.length k4, .slice p5 y1.Truth.length k5, .int .i64 y1.Leak, .int .i64 y1.Energy] 155, Ch.own S1 (x1 : List ByteArray) [.slice p2 x1.length k2], Ch.box bb1 [.slice p1 l.Cells.length k1] 41] := h
  refine zNSSR (zl 0 0 h rfl ?_)
  obtain ⟨r1, hr2, hF⟩ := qd hF
  refine ql r1 h call153 (qlw (qgg y1 (h.oldS s2) (h.oldS s3) (h.oldS s4)) hr2) rfl rfl rfl rfl ?_
  intro w5 h
  refine zp1 rfl (qb ?_)
  refine qq rfl hF ?_ ?_ <;> intro hF
  ·refine zSR (zp1 rfl (qb ?_))
   obtain rfl := qj hF; replace hF := hK1
   exact qu qc h hF ⟨rfl, trivial⟩
  refine qd4 (qE (zp2 rfl (zl 0 0 h rfl (qaP qc [.tmp 18] _ ([y1.Name] : List ByteArray) h rfl rfl rfl rfl rfl rfl rfl rfl rfl ⟨rfl, trivial⟩ rfl ?_))))
  intro w6 p6 S2 h
  obtain ⟨x2, hx1, hF⟩ := qd hF
  obtain ⟨g1, hx1⟩ := qbr hx1
  refine qeq qc 2 h rfl (h.sl 0 rfl).1 (h.sl 0 rfl).2 rfl rfl rfl rfl rfl rfl rfl rfl rfl g1 hx1 rfl ?_
  intro w7 p7 k6 S3 h
  refine zp1 rfl (zNER (zp2 rfl (qb ?_)))
  replace h := h.pick [2, 3] rfl
  exact qA m1 [(1, _), (3, _), (7, _), (8, _), (9, _)] (Nat.lt_succ_self m1) ⟨rfl, rfl, rfl, rfl, rfl, trivial⟩ ⟨_, _, _, _, _, _, hF, rfl, h⟩
 refine qI rfl ?_
 obtain rfl := qj hF; replace hF := hK1
 refine zSR (zp1 rfl (zl 1 0 h rfl (zp3 rfl ?_)))
 by_cases hc4 : (decide ((l.Cells.length : Int) ≤ 8)) = true
 ·replace hF := bifT hc4 hF
  refine qC hc4 (t := 26) rfl (qa rfl (zp1 rfl (qa rfl ?_)))
  obtain ⟨r2, hr3, hF⟩ := qd hF
  refine ql r2 h call154 (qeB (h.own 0 rfl) hr3) rfl rfl rfl rfl ?_
  intro w8 h
  exact zp2 rfl (qb (qu qc h hF ⟨rfl, trivial⟩))
 replace hc4 := zb hc4
 replace hF := bifF hc4 hF
 exact qB hc4 (t := 26) rfl (zn2 rfl (zp2 rfl (qb (qu qc h hF ⟨rfl, trivial⟩))))

def qaI (d : qk) : Nat → (List ByteArray) → Int → Option ((List ByteArray) × Int)
 | 0, _, _ => none
 | n + 1, x3, i2 =>
  bif decide (i2 < (d.Ports.length : Int)) then
   (idx d.Ports i2).bind fun y2 =>
   (appS x3 ([y2.Name] : List ByteArray)).bind fun x4 =>
   qaI d n x4 (W64 (i2 + 1))
  else
   some (x3, i2)

def qaJ (d : qk) : Nat → (List ByteArray) → Int → Option ((List ByteArray) × Int)
 | 0, _, _ => none
 | n + 1, x1, i1 =>
  bif decide (i1 < (d.Instances.length : Int)) then
   (idx d.Instances i1).bind fun y1 =>
   (appS x1 ([y1.Name] : List ByteArray)).bind fun x2 =>
   qaJ d n x2 (W64 (i1 + 1))
  else
   some (x1, i1)

def qdf (n : Nat) (d : qk) : Option Bool :=
 (qaJ d n ([] : List ByteArray) 0).bind fun o => match o with
 | (x1, _) =>
  (qaI d n ([] : List ByteArray) 0).bind fun o => match o with
  | (x3, _) =>
   bif decide ((x1.length : Int) ≤ 14) then
    bif decide ((d.Nets.length : Int) ≤ 30) then
     bif decide ((x3.length : Int) ≤ 8) then
      (qdd n x1).bind fun r1 =>
      bif r1 then
       (qdd n d.Nets).bind fun r2 =>
       bif r2 then
        (qdd n x3).bind fun r3 =>
        some r3
       else
        some false
      else
       some false
     else
      some false
    else
     some false
   else
    some false

theorem qig {n : Nat} {w : World} {d : qk} {cs1 : List Value} (ha1 : GoT.R w (old w) d cs1) {r : Bool} (hF : qdf n d = some r) : RetV Tryz.prog 125 [GoT.v qk cs1] w r := by
 obtain ⟨p1, k1, p2, k2, p3, k3, rfl, s1, s2, s3⟩ := qan ha1
 refine qe Tryz.func125 rfl (m := 62) rfl rfl (fun h => ?_)
 rw [qdf] at hF
 refine zSR (qM h rfl rfl ?_)
 intro w1 bb1 h
 refine zp1 rfl (zNSR (zp2 rfl (zNSSR (zp1 rfl (zl 0 0 h rfl ?_)))))
 refine zp2 rfl (qb ?_)
 replace h := h.nil (α := ByteArray)
 obtain ⟨o1, hF, hK1⟩ := qd hF
 refine qz (qT [(1, _), (3, _), (4, _), (10, _), (11, _), (12, _)] ⟨rfl, rfl, rfl, rfl, rfl, rfl, trivial⟩ ?_)
 refine qH (fun m e w' => ∃ (S1 : Nat → Prop) (p4 : Option Addr) (ln1 : Nat) (k4 : Nat) (x1 : (List ByteArray)) (i1 : Int), qaJ d m x1 i1 = some o1 ∧ e = [(1, .pointer (some ⟨bb1, 0, none⟩)), (3, .slice p4 ln1 k4), (4, .slice none 0 0), (10, .slice p1 d.Instances.length k1), (11, .int .i64 (d.Instances.length : Int)), (12, .int .i64 i1)] ∧ SH w w' [Ch.own S1 (x1 : List ByteArray) [.slice p4 ln1 k4], Ch.box bb1 [.slice p1 d.Instances.length k1, .slice p2 d.Nets.length k2, .slice p3 d.Ports.length k3] 45]) n ⟨_, _, _, _, _, _, hF, rfl, h⟩ ?_
 rintro m1 e1 w2 ⟨S1, p4, ln1, k4, x1, i1, hF, rfl, h⟩
 obtain rfl := (h.sl 0 rfl).2
 rcases m1 with _ | m1
 ·rw [qaJ] at hF
  cases hF
 rw [qaJ] at hF
 refine zSR (zp1 rfl (zNS ?_))
 refine qq rfl hF ?_ ?_ <;> intro hF
 ·refine zKSBSR ?_
  obtain ⟨y1, hy1, hF⟩ := qd hF
  have he1 := qg hy1
  obtain ⟨b1, o_1, q1, cs2, hp1, hq1, -, hr1, hc2⟩ := s1.at hy1
  obtain ⟨p5, k5, rfl, s4⟩ := qX hr1
  refine zxe hp1 hq1 he1 rfl (zc 0 (hc2.below h.below) rfl (qU qc h rfl rfl rfl ?_))
  intro w3 bb2 h
  refine zs 0 h rfl ?_
  intro w4 h
  replace h : SH _ _ [Ch.box bb2 [.string y1.Name, .int .i64 y1.Cell, .slice p5 y1.Nets.length k5] 126, Ch.own S1 (x1 : List ByteArray) [.slice p4 x1.length k4], Ch.box bb1 [.slice p1 d.Instances.length k1, .slice p2 d.Nets.length k2, .slice p3 d.Ports.length k3] 45] := h
  refine qb (qE (zp2 rfl (zl 0 0 h rfl (qaP qc [.tmp 18] _ ([y1.Name] : List ByteArray) h rfl rfl rfl rfl rfl rfl rfl rfl rfl ⟨rfl, trivial⟩ rfl ?_))))
  intro w5 p6 S2 h
  obtain ⟨x2, hx1, hF⟩ := qd hF
  obtain ⟨g1, hx1⟩ := qbr hx1
  refine qeq qc 2 h rfl (h.sl 0 rfl).1 (h.sl 0 rfl).2 rfl rfl rfl rfl rfl rfl rfl rfl rfl g1 hx1 rfl ?_
  intro w6 p7 k6 S3 h
  refine zp1 rfl (zNER (zp2 rfl (qb ?_)))
  replace h := h.pick [2, 3] rfl
  exact qA m1 [(1, _), (3, _), (4, _), (10, _), (11, _), (12, _)] (Nat.lt_succ_self m1) ⟨rfl, rfl, rfl, rfl, rfl, rfl, trivial⟩ ⟨_, _, _, _, _, _, hF, rfl, h⟩
 refine qI rfl ?_
 obtain rfl := qj hF; replace hF := hK1
 refine zSSR (zp1 rfl (zl 1 2 h rfl (zp2 rfl (qb ?_))))
 replace h := h.nil (α := ByteArray)
 obtain ⟨o2, hF, hK2⟩ := qd hF
 refine qz (qT [(1, _), (3, _), (4, _), (23, _), (24, _), (25, _)] ⟨rfl, rfl, rfl, rfl, rfl, rfl, trivial⟩ ?_)
 refine qH (fun m e w' => ∃ (S4 : Nat → Prop) (p8 : Option Addr) (ln2 : Nat) (k7 : Nat) (x3 : (List ByteArray)) (i2 : Int), qaI d m x3 i2 = some o2 ∧ e = [(1, .pointer (some ⟨bb1, 0, none⟩)), (3, .slice p4 x1.length k4), (4, .slice p8 ln2 k7), (23, .slice p3 d.Ports.length k3), (24, .int .i64 (d.Ports.length : Int)), (25, .int .i64 i2)] ∧ SH w w' [Ch.own S4 (x3 : List ByteArray) [.slice p8 ln2 k7], Ch.own S1 (x1 : List ByteArray) [.slice p4 x1.length k4], Ch.box bb1 [.slice p1 d.Instances.length k1, .slice p2 d.Nets.length k2, .slice p3 d.Ports.length k3] 45]) n ⟨_, _, _, _, _, _, hF, rfl, h⟩ ?_
 rintro m2 e2 w7 ⟨S4, p8, ln2, k7, x3, i2, hF, rfl, h⟩
 obtain rfl := (h.sl 0 rfl).2
 rcases m2 with _ | m2
 ·rw [qaI] at hF
  cases hF
 rw [qaI] at hF
 refine zSR (zp1 rfl (zNS ?_))
 refine qq rfl hF ?_ ?_ <;> intro hF
 ·refine zKSBSR ?_
  obtain ⟨y2, hy2, hF⟩ := qd hF
  have he2 := qg hy2
  obtain ⟨b2, o_2, q2, cs3, hp2, hq2, -, hr2, hc4⟩ := s3.at hy2
  obtain rfl := qbt hr2
  refine zxe hp2 hq2 he2 rfl (zc 0 (hc4.below h.below) rfl (qU qc h rfl rfl rfl ?_))
  intro w8 bb3 h
  refine zs 0 h rfl ?_
  intro w9 h
  replace h : SH _ _ [Ch.box bb3 [.string y2.Name, .int .i64 y2.Dir, .int .i64 y2.Net] 148, Ch.own S4 (x3 : List ByteArray) [.slice p8 x3.length k7], Ch.own S1 (x1 : List ByteArray) [.slice p4 x1.length k4], Ch.box bb1 [.slice p1 d.Instances.length k1, .slice p2 d.Nets.length k2, .slice p3 d.Ports.length k3] 45] := h
  refine qb (qE (zp2 rfl (zl 0 0 h rfl (qaP qc [.tmp 31] _ ([y2.Name] : List ByteArray) h rfl rfl rfl rfl rfl rfl rfl rfl rfl ⟨rfl, trivial⟩ rfl ?_))))
  intro w10 p9 S5 h
  obtain ⟨x4, hx2, hF⟩ := qd hF
  obtain ⟨g2, hx2⟩ := qbr hx2
  refine qeq qc 2 h rfl (h.sl 0 rfl).1 (h.sl 0 rfl).2 rfl rfl rfl rfl rfl rfl rfl rfl rfl g2 hx2 rfl ?_
  intro w11 p10 k8 S6 h
  refine zp1 rfl (zNER (zp2 rfl (qb ?_)))
  replace h := h.pick [2, 3, 4] rfl
  exact qA m2 [(1, _), (3, _), (4, _), (23, _), (24, _), (25, _)] (Nat.lt_succ_self m2) ⟨rfl, rfl, rfl, rfl, rfl, rfl, trivial⟩ ⟨_, _, _, _, _, _, hF, rfl, h⟩
 refine qI rfl ?_
 obtain rfl := qj hF; replace hF := hK2
 refine zSR (zp4 rfl ?_)
 by_cases hc5 : (decide ((x1.length : Int) ≤ 14)) = true
 ·replace hF := bifT hc5 hF
  refine qC hc5 (t := 38) rfl (qa rfl (zp1 rfl (qa rfl (zl 2 1 h rfl (qa rfl (zp1 rfl (qa rfl (zp3 rfl ?_))))))))
  by_cases hc6 : (decide ((d.Nets.length : Int) ≤ 30)) = true
  ·replace hF := bifT hc6 hF
   refine qC hc6 (t := 44) rfl (qa rfl (zp1 rfl (qa rfl (zp1 rfl (qa rfl (zp3 rfl ?_))))))
   by_cases hc7 : (decide ((x3.length : Int) ≤ 8)) = true
   ·replace hF := bifT hc7 hF
    refine qC hc7 (t := 49) rfl (qa rfl (zp1 rfl (qa rfl ?_)))
    obtain ⟨r1, hr3, hF⟩ := qd hF
    refine ql r1 h call154 (qeB (h.own 1 rfl) hr3) rfl rfl rfl rfl ?_
    intro w12 h
    refine zp2 rfl ?_
    by_cases hc8 : r1 = true
    ·replace hF := bifT hc8 hF
     refine qC hc8 (t := 53) rfl (qa rfl (zp1 rfl (qa rfl (zl 2 1 h rfl (qa rfl ?_)))))
     obtain ⟨r2, hr4, hF⟩ := qd hF
     refine ql r2 h call154 (qeB ⟨_, _, rfl, (h.oldS s2)⟩ hr4) rfl rfl rfl rfl ?_
     intro w13 h
     refine zp2 rfl ?_
     by_cases hc9 : r2 = true
     ·replace hF := bifT hc9 hF
      refine qC hc9 (t := 58) rfl (qa rfl (zp1 rfl (qa rfl ?_)))
      obtain ⟨r3, hr5, hF⟩ := qd hF
      refine ql r3 h call154 (qeB (h.own 0 rfl) hr5) rfl rfl rfl rfl ?_
      intro w14 h
      exact zp2 rfl (qb (qu qc h hF ⟨rfl, trivial⟩))
     replace hc9 := zb hc9
     replace hF := bifF hc9 hF
     exact qB hc9 (t := 58) rfl (zn2 rfl (zp2 rfl (qb (qu qc h hF ⟨rfl, trivial⟩))))
    replace hc8 := zb hc8
    replace hF := bifF hc8 hF
    exact qB hc8 (t := 53) rfl (zn3 rfl (zp2 rfl (zn2 rfl (zp2 rfl (qb (qu qc h hF ⟨rfl, trivial⟩))))))
   replace hc7 := zb hc7
   replace hF := bifF hc7 hF
   refine qB hc7 (t := 49) rfl (zn2 rfl (zp2 rfl (zn3 rfl (zp2 rfl (zn2 rfl ?_)))))
   exact zp2 rfl (qb (qu qc h hF ⟨rfl, trivial⟩))
  replace hc6 := zb hc6
  replace hF := bifF hc6 hF
  refine qB hc6 (t := 44) rfl (zn3 rfl (zp2 rfl (zn2 rfl (zp2 rfl (zn2 rfl ?_)))))
  exact zn1 rfl (zp2 rfl (zn2 rfl (zp2 rfl (qb (qu qc h hF ⟨rfl, trivial⟩)))))
 replace hc5 := zb hc5
 replace hF := bifF hc5 hF
 refine qB hc5 (t := 38) rfl (zn4 rfl (zp2 rfl (zn3 rfl (zp2 rfl ?_))))
 refine zn2 rfl (zp2 rfl (zn3 rfl (zp2 rfl (zn2 rfl (zp1 rfl ?_)))))
 exact zp1 rfl (qb (qu qc h hF ⟨rfl, trivial⟩))

def qd1 (_ : Nat) (list : (List qD)) : Option Int :=
 some (list.length : Int)

theorem qif {n : Nat} {w : World} {list : (List qD)} {cs1 : List Value} (ha1 : GoT.R w (old w) list cs1) {r : Int} (hF : qd1 n list = some r) : RetV Tryz.prog 155 [GoT.v (List qD) cs1] w r := by
 obtain ⟨p1, k1, rfl, s1⟩ := ha1
 refine qe Tryz.func155 rfl (m := 5) rfl rfl (fun h => ?_)
 rw [qd1] at hF
 exact zSR (zp1 rfl (zNSR (zp3 rfl (qb (qaB qc h hF ⟨rfl, trivial⟩)))))

def qeZ (_ : Nat) (list : (List ByteArray)) : Option Int :=
 some (list.length : Int)

theorem qiT {n : Nat} {w : World} {list : (List ByteArray)} {cs1 : List Value} (ha1 : GoT.R w (old w) list cs1) {r : Int} (hF : qeZ n list = some r) : RetV Tryz.prog 157 [GoT.v (List ByteArray) cs1] w r := by
 obtain ⟨p1, k1, rfl, s1⟩ := ha1
 refine qe Tryz.func157 rfl (m := 5) rfl rfl (fun h => ?_)
 rw [qeZ] at hF
 exact zSR (zp1 rfl (zNSR (zp3 rfl (qb (qaB qc h hF ⟨rfl, trivial⟩)))))

def qcJ (n : Nat) (d : qk) (net : Int) : Option Bool :=
 (qeZ n d.Nets).bind fun r1 =>
 (qaM n net 0 (W64 (r1 - 1))).bind fun r2 =>
 some r2

theorem qfl {n : Nat} {w : World} {d : qk} {net : Int} {cs1 : List Value} (ha1 : GoT.R w (old w) d cs1) {r : Bool} (hF : qcJ n d net = some r) : RetV Tryz.prog 127 [GoT.v qk cs1, .int .i64 net] w r := by
 obtain ⟨p1, k1, p2, k2, p3, k3, rfl, s1, s2, s3⟩ := qan ha1
 refine qe Tryz.func127 rfl (m := 11) rfl rfl (fun h => ?_)
 rw [qcJ] at hF
 refine zSR (qM h rfl rfl ?_)
 intro w1 bb1 h
 refine zp1 rfl (zNSR (zp2 rfl (zl 0 1 h rfl ?_)))
 obtain ⟨r1, hr1, hF⟩ := qd hF
 refine qQ r1 h call157 (qiT ⟨_, _, rfl, (h.oldS s2)⟩ hr1) rfl rfl rfl rfl ?_
 intro w2 h
 refine zp1 rfl ?_
 obtain ⟨r2, hr2, hF⟩ := qd hF
 refine ql r2 h call100 (qaw hr2) rfl rfl rfl rfl ?_
 intro w3 h
 exact zp1 rfl (qb (qu qc h hF ⟨rfl, trivial⟩))

def qch (n : Nat) (net : Int) (v0 : qk) : Option Bool :=
 (qcJ n v0 net).bind fun r1 =>
 some (!r1)

theorem qhu {n : Nat} {w : World} {net : Int} {v0 : qk} {p1 : Option Addr} (ha1 : GoT.R w (old w) (some v0) [.pointer p1]) {r : Bool} (hF : qch n net v0 = some r) : RetV Tryz.prog 156 [.int .i64 net, .pointer p1] w r := by
 obtain ⟨b1, o_1, cs1, rfl, -, hr1, hc1⟩ := PtR.get ha1 rfl
 obtain ⟨p2, k1, p3, k2, p4, k3, rfl, s1, s2, s3⟩ := qan hr1
 refine qe Tryz.func156 rfl (m := 8) rfl rfl (fun h => ?_)
 rw [qch] at hF
 refine zSR (zp1 rfl (zNSR (zc 0 (hc1.below h.below) rfl (zp1 rfl ?_))))
 obtain ⟨r1, hr2, hF⟩ := qd hF
 refine ql r1 h call127 (qfl (qba v0 (h.oldS s1) (h.oldS s2) (h.oldS s3)) hr2) rfl rfl rfl rfl ?_
 intro w1 h
 exact zp2 rfl (qb (qu qc h hF ⟨rfl, trivial⟩))

def qJ (s : (List Int)) (f_0 : qk) : Nat → Int → Option (Flow Int Int)
 | 0, _ => none
 | n + 1, i1 =>
  bif decide (i1 < (s.length : Int)) then
   (idx s i1).bind fun y1 =>
   (qch n y1 f_0).bind fun r1 =>
   bif r1 then
    some (.ret i1)
   else
    qJ s f_0 n (W64 (i1 + 1))
  else
   some (.nxt i1)

def qax (n : Nat) (s : (List Int)) (f_0 : qk) : Option Int :=
 (qJ s f_0 n 0).bind fun o => match o with
 | .ret r => some r
 | .nxt _ =>
  some (-1)

theorem qdS {n : Nat} {w : World} {s : (List Int)} {f_0 : qk} {cs1 : List Value} (ha1 : GoT.R w (old w) s cs1) {p2 : Option Addr} (ha2 : GoT.R w (old w) (some f_0) [.pointer p2]) {r : Int} (hF : qax n s f_0 = some r) : RetV Tryz.prog 159 [GoT.v (List Int) cs1, .func (.func 156) #[] #[.pointer p2]] w r := by
 obtain ⟨p1, k1, rfl, s1⟩ := ha1
 obtain ⟨b1, o_1, cs2, rfl, -, hr1, hc1⟩ := PtR.get ha2 rfl
 obtain ⟨p3, k2, p4, k3, p5, k4, rfl, s2, s3, s4⟩ := qan hr1
 refine qe Tryz.func159 rfl (m := 19) rfl rfl (fun h => ?_)
 rw [qax] at hF
 refine zSR (zp1 rfl (zNSSR (zp3 rfl (qb ?_))))
 obtain ⟨o1, hF, hK1⟩ := qd hF
 refine qz (qT [(0, _), (1, _), (7, _), (8, _)] ⟨rfl, rfl, rfl, rfl, trivial⟩ ?_)
 refine qH (fun m e w' => ∃ (i1 : Int), qJ s f_0 m i1 = some o1 ∧ e = [(0, .slice p1 s.length k1), (1, .func (.func 156) #[] #[.pointer (some ⟨b1, o_1, none⟩)]), (7, .int .i64 (s.length : Int)), (8, .int .i64 i1)] ∧ SH w w' []) n ⟨_, hF, rfl, h⟩ ?_
 rintro m1 e1 w1 ⟨i1, hF, rfl, h⟩
 rcases m1 with _ | m1
 ·rw [qJ] at hF
  cases hF
 rw [qJ] at hF
 refine zSR (zp1 rfl (zNS ?_))
 refine qq rfl hF ?_ ?_ <;> intro hF
 ·refine zKSBSR (zp2 rfl (zNSR (zp2 rfl ?_)))
  refine zp1 rfl ?_
  obtain ⟨y1, hy1, hF⟩ := qd hF
  have he1 := qg hy1
  obtain ⟨b2, o_2, q1, cs3, hp1, hq1, -, hr2, hc3⟩ := s1.at hy1
  obtain rfl := hr2
  refine zxe hp1 hq1 he1 rfl (zc 0 (hc3.below h.below) rfl ?_)
  obtain ⟨r1, hr3, hF⟩ := qd hF
  refine ql r1 h call156 (qhu (h.old ha2) hr3) rfl rfl rfl rfl ?_
  intro w2 h
  refine qb ?_
  refine qq rfl hF ?_ ?_ <;> intro hF
  ·refine zSR (zp2 rfl (qb ?_))
   obtain rfl := qj hF; replace hF := hK1
   exact qaB qc h hF ⟨rfl, trivial⟩
  exact zKER (zp2 rfl (qb (qA m1 [(0, _), (1, _), (7, _), (8, _)] (Nat.lt_succ_self m1) ⟨rfl, rfl, rfl, rfl, trivial⟩ ⟨_, hF, rfl, h⟩)))
 refine qI rfl ?_
 obtain rfl := qj hF; replace hF := hK1
 exact zSR (zp1 rfl (qb (qaB qc h hF ⟨rfl, trivial⟩)))

def qao (n : Nat) (s : (List Int)) (f_0 : qk) : Option Bool :=
 (qax n s f_0).bind fun r1 =>
 some (decide (r1 ≥ 0))

theorem qdD {n : Nat} {w : World} {s : (List Int)} {f_0 : qk} {cs1 : List Value} (ha1 : GoT.R w (old w) s cs1) {p2 : Option Addr} (ha2 : GoT.R w (old w) (some f_0) [.pointer p2]) {r : Bool} (hF : qao n s f_0 = some r) : RetV Tryz.prog 136 [GoT.v (List Int) cs1, .func (.func 156) #[] #[.pointer p2]] w r := by
 obtain ⟨p1, k1, rfl, s1⟩ := ha1
 obtain ⟨b1, o_1, cs2, rfl, -, hr1, hc1⟩ := PtR.get ha2 rfl
 obtain ⟨p3, k2, p4, k3, p5, k4, rfl, s2, s3, s4⟩ := qan hr1
 refine qe Tryz.func136 rfl (m := 9) rfl rfl (fun h => ?_)
 rw [qao] at hF
 refine zSR (zp1 rfl (zNSR (zp2 rfl ?_)))
 obtain ⟨r1, hr2, hF⟩ := qd hF
 refine qQ r1 h call159 (qdS ⟨_, _, rfl, (h.oldS s1)⟩ (h.old ha2) hr2) rfl rfl rfl rfl ?_
 intro w1 h
 exact zp2 rfl (qb (qu qc h hF ⟨rfl, trivial⟩))

def qcK (n : Nat) (d : qk) (l : qt) (x : qp) : Option Bool :=
 (qd1 n l.Cells).bind fun r1 =>
 (qaM n x.Cell 0 (W64 (r1 - 1))).bind fun r2 =>
 bif r2 then
  (idx l.Cells x.Cell).bind fun y1 =>
  bif ((x.Nets.length : Int) == (y1.Pins.length : Int)) then
   (qao n x.Nets d).bind fun r3 =>
   some (!r3)
  else
   some false
 else
  some false

theorem qhY {n : Nat} {w : World} {d : qk} {l : qt} {x : qp} {cs1 : List Value} (ha1 : GoT.R w (old w) d cs1) {cs2 : List Value} (ha2 : GoT.R w (old w) l cs2) {cs3 : List Value} (ha3 : GoT.R w (old w) x cs3) {r : Bool} (hF : qcK n d l x = some r) : RetV Tryz.prog 126 [GoT.v qk cs1, GoT.v qt cs2, GoT.v qp cs3] w r := by
 obtain ⟨p1, k1, p2, k2, p3, k3, rfl, s1, s2, s3⟩ := qan ha1
 obtain ⟨p4, k4, rfl, s4⟩ := qbu ha2
 obtain ⟨p5, k5, rfl, s5⟩ := qX ha3
 refine qe Tryz.func126 rfl (m := 35) rfl rfl (fun h => ?_)
 rw [qcK] at hF
 refine zSR (qM h rfl rfl ?_)
 intro w1 bb1 h
 refine qM h rfl rfl ?_
 intro w2 bb2 h
 refine qM h rfl rfl ?_
 intro w3 bb3 h
 refine zp1 rfl (zNS ?_)
 refine qco rfl (by kernel_rfl) ?_
 refine zd1 rfl ?_
 refine zdl 0 1 h rfl ?_
 refine zd1 rfl ?_
 refine zdl 1 0 h rfl ?_
 obtain ⟨r1, hr1, hF⟩ := qd hF
 refine qcf r1 (vsI _) call155 (fun _ hb => qif ⟨_, _, rfl, ((h.ext hb).oldS s4)⟩ hr1) rfl rfl rfl rfl ?_
 refine zd1 rfl ?_
 obtain ⟨r2, hr2, hF⟩ := qd hF
 refine qcf r2 (vsB _) call100 (fun _ hb => qaw  hr2) rfl rfl rfl rfl ?_
 refine zd1 rfl ?_
 by_cases hc1 : r2 = true
 ·replace hF := bifT hc1 hF
  refine qb0 hc1 (t := 14) rfl (qf rfl (zd1 rfl (qf rfl ?_)))
  refine zdl 0 2 h rfl ?_
  refine qf rfl (zd1 rfl (qf rfl (zd1 rfl (qf rfl ?_))))
  refine zdl 1 0 h rfl ?_
  refine qf rfl (zd1 rfl (qf rfl ?_))
  refine zdl 0 1 h rfl ?_
  refine qf rfl ?_
  obtain ⟨y1, hy1, hF⟩ := qd hF
  have he1 := qg hy1
  obtain ⟨b1, o_1, q1, cs4, hp1, hq1, -, hr3, hc2⟩ := s4.at hy1
  obtain ⟨p6, k6, p7, k7, p8, k8, rfl, s6, s7, s8⟩ := qV hr3
  refine zdxe hp1 hq1 he1 rfl ?_
  refine qf rfl (zd1 rfl (qf rfl ?_))
  refine zdc 2 (hc2.below h.below) rfl ?_
  refine qf rfl (zd1 rfl (qf rfl (zd3 rfl ?_)))
  by_cases hc3 : ((x.Nets.length : Int) == (y1.Pins.length : Int)) = true
  ·replace hF := bifT hc3 hF
   refine qb0 hc3 (t := 28) rfl (qf rfl (zd1 rfl (qf rfl ?_)))
   refine zdl 0 2 h rfl ?_
   refine qf rfl (zd1 rfl (qf rfl ?_))
   obtain ⟨r3, hr4, hF⟩ := qd hF
   refine qcf r3 (vsB _) call136 (fun _ hb => qdD ⟨_, _, rfl, ((h.ext hb).oldS s5)⟩ (qhJ (x := d) 2 (h.ext hb) rfl ((h.ext hb).old ha1)) hr4) rfl rfl rfl rfl ?_
   refine qf rfl (zd3 rfl ?_)
   refine qaX (fun w4 hb => ?_)
   replace h := h.ext hb
   clear hb
   exact qu qc h hF ⟨rfl, trivial⟩
  replace hc3 := zb hc3
  replace hF := bifF hc3 hF
  refine qb3 hc3 (t := 28) rfl (qh rfl rfl rfl (qh rfl rfl rfl (qh rfl rfl rfl (qh rfl rfl rfl (qh rfl rfl rfl (zd2 rfl ?_))))))
  refine qaX (fun w5 hb => ?_)
  replace h := h.ext hb
  clear hb
  exact qu qc h hF ⟨rfl, trivial⟩
 replace hc1 := zb hc1
 replace hF := bifF hc1 hF
 refine qb3 hc1 (t := 14) rfl (qh rfl rfl rfl (qh rfl rfl rfl (qh rfl rfl rfl (qh rfl rfl rfl (qh rfl rfl rfl (qh rfl rfl rfl (qh rfl rfl rfl (qh rfl rfl rfl (qh rfl rfl rfl (qh rfl rfl rfl (qh rfl rfl rfl ?_)))))))))))
 refine qh rfl rfl rfl (zd2 rfl (qh rfl rfl rfl (qh rfl rfl rfl (qh rfl rfl rfl (qh rfl rfl rfl (qh rfl rfl rfl (zd2 rfl ?_)))))))
 refine qaX (fun w6 hb => ?_)
 replace h := h.ext hb
 clear hb
 exact qu qc h hF ⟨rfl, trivial⟩

def qf4 (_ : Nat) (a_n : Int) : Option Bool :=
 some (a_n != 1)

theorem qjP {n : Nat} {w : World} {a_n : Int}  {r : Bool} (hF : qf4 n a_n = some r) : RetV Tryz.prog 129 [.int .i64 a_n] w r := by
 refine qe Tryz.func129 rfl (m := 5) rfl rfl (fun h => ?_)
 rw [qf4] at hF
 exact zSR (zp1 rfl (zNSR (zp3 rfl (qb (qu qc h hF ⟨rfl, trivial⟩)))))

def qS (s : (List Int)) : Nat → Int → Option (Flow Int Int)
 | 0, _ => none
 | n + 1, i1 =>
  bif decide (i1 < (s.length : Int)) then
   (idx s i1).bind fun y1 =>
   (qf4 n y1).bind fun r1 =>
   bif r1 then
    some (.ret i1)
   else
    qS s n (W64 (i1 + 1))
  else
   some (.nxt i1)

def qbp (n : Nat) (s : (List Int)) : Option Int :=
 (qS s n 0).bind fun o => match o with
 | .ret r => some r
 | .nxt _ =>
  some (-1)

theorem qfk {n : Nat} {w : World} {s : (List Int)} {cs1 : List Value} (ha1 : GoT.R w (old w) s cs1) {r : Int} (hF : qbp n s = some r) : RetV Tryz.prog 158 [GoT.v (List Int) cs1, .func (.func 129) #[] #[]] w r := by
 obtain ⟨p1, k1, rfl, s1⟩ := ha1
 refine qe Tryz.func158 rfl (m := 19) rfl rfl (fun h => ?_)
 rw [qbp] at hF
 refine zSR (zp1 rfl (zNSSR (zp3 rfl (qb ?_))))
 obtain ⟨o1, hF, hK1⟩ := qd hF
 refine qz (qT [(0, _), (1, _), (7, _), (8, _)] ⟨rfl, rfl, rfl, rfl, trivial⟩ ?_)
 refine qH (fun m e w' => ∃ (i1 : Int), qS s m i1 = some o1 ∧ e = [(0, .slice p1 s.length k1), (1, .func (.func 129) #[] #[]), (7, .int .i64 (s.length : Int)), (8, .int .i64 i1)] ∧ SH w w' []) n ⟨_, hF, rfl, h⟩ ?_
 rintro m1 e1 w1 ⟨i1, hF, rfl, h⟩
 rcases m1 with _ | m1
 ·rw [qS] at hF
  cases hF
 rw [qS] at hF
 refine zSR (zp1 rfl (zNS ?_))
 refine qq rfl hF ?_ ?_ <;> intro hF
 ·refine zKSBSR (zp2 rfl (zNSR (zp2 rfl ?_)))
  refine zp1 rfl ?_
  obtain ⟨y1, hy1, hF⟩ := qd hF
  have he1 := qg hy1
  obtain ⟨b1, o_1, q1, cs2, hp1, hq1, -, hr1, hc2⟩ := s1.at hy1
  obtain rfl := hr1
  refine zxe hp1 hq1 he1 rfl (zc 0 (hc2.below h.below) rfl ?_)
  obtain ⟨r1, hr2, hF⟩ := qd hF
  refine ql r1 h call129 (qjP hr2) rfl rfl rfl rfl ?_
  intro w2 h
  refine qb ?_
  refine qq rfl hF ?_ ?_ <;> intro hF
  ·refine zSR (zp2 rfl (qb ?_))
   obtain rfl := qj hF; replace hF := hK1
   exact qaB qc h hF ⟨rfl, trivial⟩
  exact zKER (zp2 rfl (qb (qA m1 [(0, _), (1, _), (7, _), (8, _)] (Nat.lt_succ_self m1) ⟨rfl, rfl, rfl, rfl, trivial⟩ ⟨_, hF, rfl, h⟩)))
 refine qI rfl ?_
 obtain rfl := qj hF; replace hF := hK1
 exact zSR (zp1 rfl (qb (qaB qc h hF ⟨rfl, trivial⟩)))

def qbb (n : Nat) (s : (List Int)) : Option Bool :=
 (qbp n s).bind fun r1 =>
 some (decide (r1 ≥ 0))

theorem qeR {n : Nat} {w : World} {s : (List Int)} {cs1 : List Value} (ha1 : GoT.R w (old w) s cs1) {r : Bool} (hF : qbb n s = some r) : RetV Tryz.prog 128 [GoT.v (List Int) cs1, .func (.func 129) #[] #[]] w r := by
 obtain ⟨p1, k1, rfl, s1⟩ := ha1
 refine qe Tryz.func128 rfl (m := 9) rfl rfl (fun h => ?_)
 rw [qbb] at hF
 refine zSR (zp1 rfl (zNSR (zp2 rfl ?_)))
 obtain ⟨r1, hr1, hF⟩ := qd hF
 refine qQ r1 h call158 (qfk ⟨_, _, rfl, (h.oldS s1)⟩ hr1) rfl rfl rfl rfl ?_
 intro w1 h
 exact zp2 rfl (qb (qu qc h hF ⟨rfl, trivial⟩))

def qbB (a_1 : qk) : Nat → (List Int) → Int → Option (Flow Bool ((List Int) × Int))
 | 0, _, _ => none
 | n + 1, x3, i2 =>
  bif decide (i2 < (a_1.Ports.length : Int)) then
   (idx a_1.Ports i2).bind fun y5 =>
   (
    bif (y5.Dir != 1) then
     bif (y5.Dir != 2) then
      some true
     else
      (qcJ n a_1 y5.Net).bind fun r2 =>
      some (!r2)
    else
     (qcJ n a_1 y5.Net).bind fun r3 =>
     some (!r3)).bind fun b7 =>
   bif b7 then
    some (.ret false)
   else
    bif (y5.Dir == 1) then
     (idx x3 y5.Net).bind fun y6 =>
     (idx x3 y5.Net).bind fun _ =>
     qbB a_1 n (setS x3 y5.Net (W64 (y6 + 1))) (W64 (i2 + 1))
    else
     qbB a_1 n x3 (W64 (i2 + 1))
  else
   some (.nxt (x3, i2))

def qb2 (a_0 : qt) (a_1 : qk) : Nat → (List Int) → Int → Option (Flow Bool ((List Int) × Int))
 | 0, _, _ => none
 | n + 1, x2, i1 =>
  bif decide (i1 < (a_1.Instances.length : Int)) then
   (idx a_1.Instances i1).bind fun y1 =>
   (qcK n a_1 a_0 y1).bind fun r1 =>
   bif (!r1) then
    some (.ret false)
   else
    (idx y1.Nets (W64 ((y1.Nets.length : Int) - 1))).bind fun y2 =>
    (idx x2 y2).bind fun y3 =>
    (idx x2 y2).bind fun _ =>
    qb2 a_0 a_1 n (setS x2 y2 (W64 (y3 + 1))) (W64 (i1 + 1))
  else
   some (.nxt (x2, i1))

def qfX (n : Nat) (a_0 : qt) (a_1 : qk) : Option Bool :=
 (
  (qfp n a_0).bind fun r5 =>
  bif (!r5) then
   some true
  else
   (qdf n a_1).bind fun r6 =>
   some (!r6)).bind fun b1 =>
 bif b1 then
  some false
 else
  (mkS (a_1.Nets.length : Int) (0 : Int)).bind fun x1 =>
  (qb2 a_0 a_1 n x1 0).bind fun o => match o with
  | .ret r => some r
  | .nxt (x2, _) =>
   (qbB a_1 n x2 0).bind fun o => match o with
   | .ret r => some r
   | .nxt (x3, _) =>
    (qbb n x3).bind fun r4 =>
    some (!r4)

theorem qks {n : Nat} {w : World} {a_0 : qt} {a_1 : qk} {cs1 : List Value} (ha1 : GoT.R w (old w) a_0 cs1) {cs2 : List Value} (ha2 : GoT.R w (old w) a_1 cs2) {r : Bool} (hF : qfX n a_0 a_1 = some r) : RetV Tryz.prog 75 [GoT.v qt cs1, GoT.v qk cs2] w r := by
 obtain ⟨p1, k1, rfl, s1⟩ := qbu ha1
 obtain ⟨p2, k2, p3, k3, p4, k4, rfl, s2, s3, s4⟩ := qan ha2
 refine qe Tryz.func75 rfl (m := 84) rfl rfl (fun h => ?_)
 rw [qfX] at hF
 refine zSR (qM h rfl rfl ?_)
 intro w1 bb1 h
 refine qM h rfl rfl ?_
 intro w2 bb2 h
 refine zp1 rfl (zNSS ?_)
 obtain ⟨KF2, hKF2, o4, hF, hK4⟩ := bindE hF
 refine qem (fun e w' => ∃ (b1 : Bool), KF2 b1 = some r ∧ e = [(2, .pointer (some ⟨bb1, 0, none⟩)), (3, .pointer (some ⟨bb2, 0, none⟩)), (17, .bool b1)] ∧ SH w w' [Ch.box bb2 [.slice p2 a_1.Instances.length k2, .slice p3 a_1.Nets.length k3, .slice p4 a_1.Ports.length k4] 45, Ch.box bb1 [.slice p1 a_0.Cells.length k1] 41]) ?_ ?_
 ·refine qE (zl 1 0 h rfl ?_)
  obtain ⟨r5, hr12, hF⟩ := qd hF
  refine ql r5 h call124 (qj6 (h.old ha1) hr12) rfl rfl rfl rfl ?_
  intro w17 h
  refine zp2 rfl ?_
  by_cases hc16 : (!r5) = true
  ·replace hF := bifT hc16 hF
   refine qC hc16 (t := 13) rfl (zn3 rfl (zp1 rfl (qb ?_)))
   obtain rfl := qj hF
   exact qx [(2, _), (3, _), (17, _)] ⟨rfl, rfl, rfl, trivial⟩ ⟨_, hK4, rfl, h⟩
  replace hc16 := zb hc16
  replace hF := bifF hc16 hF
  refine qB hc16 (t := 13) rfl (qa rfl (zl 0 0 h rfl (qa rfl ?_)))
  obtain ⟨r6, hr13, hF⟩ := qd hF
  refine ql r6 h call125 (qig (h.old ha2) hr13) rfl rfl rfl rfl ?_
  intro w18 h
  refine qa rfl (zp2 rfl (qb ?_))
  obtain rfl := qj hF
  exact qx [(2, _), (3, _), (17, _)] ⟨rfl, rfl, rfl, trivial⟩ ⟨_, hK4, rfl, h⟩
 rintro e4 w19 ⟨b1, hF, rfl, h⟩
 subst hKF2
 refine qq rfl hF ?_ ?_ <;> intro hF
 ·exact zSR (zp1 rfl (qb (qu qc h hF ⟨rfl, trivial⟩)))
 refine zKSR (zp1 rfl (zl 0 1 h rfl (zp1 rfl ?_)))
 obtain ⟨x1, hx1, hF⟩ := qd hF
 obtain ⟨g1, g2, hx1⟩ := qdG hx1
 refine qeu qc Int h rfl rfl rfl rfl rfl rfl rfl rfl rfl g1 g2 hx1 rfl ?_
 intro w3 S1 p5 h
 refine zp1 rfl (zNSSR (zp1 rfl (zl 1 0 h rfl (zp2 rfl (qb ?_)))))
 obtain ⟨o1, hF, hK1⟩ := qd hF
 refine qz (qT [(2, _), (3, _), (5, _), (23, _), (24, _), (25, _)] ⟨rfl, rfl, rfl, rfl, rfl, rfl, trivial⟩ ?_)
 refine qH (fun m e w' => ∃ (x2 : (List Int)) (i1 : Int), qb2 a_0 a_1 m x2 i1 = some o1 ∧ e = [(2, .pointer (some ⟨bb1, 0, none⟩)), (3, .pointer (some ⟨bb2, 0, none⟩)), (5, .slice p5 x1.length x1.length), (23, .slice p2 a_1.Instances.length k2), (24, .int .i64 (a_1.Instances.length : Int)), (25, .int .i64 i1)] ∧ SH w w' [Ch.own S1 (x2 : List Int) [.slice p5 x1.length x1.length], Ch.box bb2 [.slice p2 a_1.Instances.length k2, .slice p3 a_1.Nets.length k3, .slice p4 a_1.Ports.length k4] 45, Ch.box bb1 [.slice p1 a_0.Cells.length k1] 41]) n ⟨_, _, hF, rfl, h⟩ ?_
 rintro m1 e1 w4 ⟨x2, i1, hF, rfl, h⟩
 rcases m1 with _ | m1
 ·rw [qb2] at hF
  cases hF
 rw [qb2] at hF
 refine zSR (zp1 rfl (zNS ?_))
 refine qq rfl hF ?_ ?_ <;> intro hF
 ·refine zKSBSR ?_
  obtain ⟨y1, hy1, hF⟩ := qd hF
  have he1 := qg hy1
  obtain ⟨b2, o_1, q1, cs3, hp1, hq1, -, hr1, hc3⟩ := s2.at hy1
  obtain ⟨p6, k5, rfl, s5⟩ := qX hr1
  refine zxe hp1 hq1 he1 rfl (zc 0 (hc3.below h.below) rfl (qU qc h rfl rfl rfl ?_))
  intro w5 bb3 h
  refine zs 0 h rfl ?_
  intro w6 h
  refine zNSSR (zl 2 0 h rfl (zl 3 0 h rfl (zl 0 0 h rfl ?_)))
  obtain ⟨r1, hr2, hF⟩ := qd hF
  refine ql r1 h call126 (qhY (h.old ha2) (h.old ha1) (qfc y1 (h.oldS s5)) hr2) rfl rfl rfl rfl ?_
  intro w7 h
  refine zp1 rfl (qb ?_)
  refine qq rfl hF ?_ ?_ <;> intro hF
  ·refine zSR (zp1 rfl (qb ?_))
   obtain rfl := qj hF; replace hF := hK1
   exact qu qc h hF ⟨rfl, trivial⟩
  refine qd4 (qE (zp2 rfl (zl 0 2 h rfl (zp1 rfl (zl 0 2 h rfl (zp2 rfl ?_))))))
  obtain ⟨y2, hy2, hF⟩ := qd hF
  have he2 := qg hy2
  obtain ⟨b3, o_2, q2, cs4, hp2, hq2, -, hr3, hc5⟩ := s5.at hy2
  obtain rfl := hr3
  refine zxe hp2 hq2 he2 rfl (zc 0 (hc5.below h.below) rfl ?_)
  obtain ⟨y3, hy3, hF⟩ := qd hF
  have he3 := qg hy3
  obtain ⟨b4, o_3, q3, cs5, hp3, hq3, -, hr4, hc6⟩ := (h.sl 1 rfl).1.at hy3
  obtain rfl := hr4
  refine zx hp3 hq3 ⟨he3.1, qa0 he3.2.1 (h.sl 1 rfl).2⟩ rfl (zc 0 hc6 rfl (zp1 rfl ?_))
  obtain ⟨y4, hy4, hF⟩ := qd hF
  have he4 := qg hy4
  obtain ⟨b5, o_4, q4, cs6, hp4, hq4, -, hr5, hc7⟩ := (h.sl 1 rfl).1.at hy4
  obtain rfl := hr5
  refine zx hp4 hq4 ⟨he4.1, qa0 he4.2.1 (h.sl 1 rfl).2⟩ rfl (qfj qc 1 0 (W64 (y3 + 1)) h rfl hy4 hp4 hq4 rfl hc7 rfl rfl rfl rfl rfl rfl rfl ?_)
  intro w8 h
  refine zNER (zp2 rfl (qb ?_))
  replace h := h.pick [1, 2, 3] rfl
  exact qA m1 [(2, _), (3, _), (5, _), (23, _), (24, _), (25, _)] (Nat.lt_succ_self m1) ⟨rfl, rfl, rfl, rfl, rfl, rfl, trivial⟩ ⟨_, _, hF, rfl, h⟩
 refine qI rfl ?_
 obtain rfl := qj hF; replace hF := hK1
 refine zSSR (zp1 rfl (zl 1 2 h rfl (zp2 rfl (qb ?_))))
 obtain ⟨o2, hF, hK2⟩ := qd hF
 refine qz ?_
 replace h := h.pick [0, 1] rfl
 refine qT [(3, _), (5, _), (49, _), (50, _), (51, _)] ⟨rfl, rfl, rfl, rfl, rfl, trivial⟩ ?_
 refine qH (fun m e w' => ∃ (x3 : (List Int)) (i2 : Int), qbB a_1 m x3 i2 = some o2 ∧ e = [(3, .pointer (some ⟨bb2, 0, none⟩)), (5, .slice p5 x1.length x1.length), (49, .slice p4 a_1.Ports.length k4), (50, .int .i64 (a_1.Ports.length : Int)), (51, .int .i64 i2)] ∧ SH w w' [Ch.own S1 (x3 : List Int) [.slice p5 x1.length x1.length], Ch.box bb2 [.slice p2 a_1.Instances.length k2, .slice p3 a_1.Nets.length k3, .slice p4 a_1.Ports.length k4] 45]) n ⟨_, _, hF, rfl, h⟩ ?_
 rintro m2 e2 w9 ⟨x3, i2, hF, rfl, h⟩
 rcases m2 with _ | m2
 ·rw [qbB] at hF
  cases hF
 rw [qbB] at hF
 refine zSR (zp1 rfl (zNS ?_))
 refine qq rfl hF ?_ ?_ <;> intro hF
 ·refine zKSBSR ?_
  obtain ⟨y5, hy5, hF⟩ := qd hF
  have he5 := qg hy5
  obtain ⟨b6, o_5, q5, cs7, hp5, hq5, -, hr6, hc9⟩ := s4.at hy5
  obtain rfl := qbt hr6
  refine zxe hp5 hq5 he5 rfl (zc 0 (hc9.below h.below) rfl (qU qc h rfl rfl rfl ?_))
  intro w10 bb4 h
  refine zs 0 h rfl ?_
  intro w11 h
  replace h : SH _ _ [Ch.box bb4 [.string y5.Name, .int .i64 y5.Dir, .int .i64 y5.Net] 148, Ch.own S1 (x3 : List Int) [.slice p5 x1.length x1.length], Ch.box bb2 [.slice p2 a_1.Instances.length k2, .slice p3 a_1.Nets.length k3, .slice p4 a_1.Ports.length k4] 45] := h
  refine zNSS ?_
  obtain ⟨KF1, hKF1, o3, hF, hK3⟩ := bindE hF
  refine qem (fun e w' => ∃ (b7 : Bool), KF1 b7 = some o2 ∧ e = [(3, .pointer (some ⟨bb2, 0, none⟩)), (5, .slice p5 x1.length x1.length), (9, .pointer (some ⟨bb4, 0, none⟩)), (49, .slice p4 a_1.Ports.length k4), (50, .int .i64 (a_1.Ports.length : Int)), (51, .int .i64 i2), (69, .bool b7)] ∧ SH w w' [Ch.box bb4 [.string y5.Name, .int .i64 y5.Dir, .int .i64 y5.Net] 148, Ch.own S1 (x3 : List Int) [.slice p5 x1.length x1.length], Ch.box bb2 [.slice p2 a_1.Instances.length k2, .slice p3 a_1.Nets.length k3, .slice p4 a_1.Ports.length k4] 45]) ?_ ?_
  ·refine qE (zp1 rfl (zl 0 1 h rfl (zp2 rfl ?_)))
   by_cases hc14 : (y5.Dir != 1) = true
   ·replace hF := bifT hc14 hF
    refine qC hc14 (t := 58) rfl (qa rfl (zp1 rfl (qa rfl (zl 0 1 h rfl (qa rfl (zp3 rfl ?_))))))
    by_cases hc15 : (y5.Dir != 2) = true
    ·replace hF := bifT hc15 hF
     refine qC hc15 (t := 63) rfl (zn5 rfl (zp1 rfl (qb ?_)))
     obtain rfl := qj hF
     exact qx [(3, _), (5, _), (9, _), (49, _), (50, _), (51, _), (69, _)] ⟨rfl, rfl, rfl, rfl, rfl, rfl, rfl, trivial⟩ ⟨_, hK3, rfl, h⟩
    replace hc15 := zb hc15
    replace hF := bifF hc15 hF
    refine qB hc15 (t := 63) rfl (qa rfl (zl 2 0 h rfl (qa rfl (zp1 rfl (qa rfl (zl 0 2 h rfl (qa rfl ?_)))))))
    obtain ⟨r2, hr9, hF⟩ := qd hF
    refine ql r2 h call127 (qfl (h.old ha2) hr9) rfl rfl rfl rfl ?_
    intro w13 h
    refine qa rfl (zp2 rfl (qb ?_))
    obtain rfl := qj hF
    exact qx [(3, _), (5, _), (9, _), (49, _), (50, _), (51, _), (69, _)] ⟨rfl, rfl, rfl, rfl, rfl, rfl, rfl, trivial⟩ ⟨_, hK3, rfl, h⟩
   replace hc14 := zb hc14
   replace hF := bifF hc14 hF
   refine qB hc14 (t := 58) rfl (zn3 rfl (zp2 rfl (qa rfl (zl 2 0 h rfl (qa rfl (zp1 rfl (qa rfl (zl 0 2 h rfl ?_))))))))
   refine qa rfl ?_
   obtain ⟨r3, hr10, hF⟩ := qd hF
   refine ql r3 h call127 (qfl (h.old ha2) hr10) rfl rfl rfl rfl ?_
   intro w14 h
   refine qa rfl (zp2 rfl (qb ?_))
   obtain rfl := qj hF
   exact qx [(3, _), (5, _), (9, _), (49, _), (50, _), (51, _), (69, _)] ⟨rfl, rfl, rfl, rfl, rfl, rfl, rfl, trivial⟩ ⟨_, hK3, rfl, h⟩
  rintro e3 w15 ⟨b7, hF, rfl, h⟩
  subst hKF1
  refine qq rfl hF ?_ ?_ <;> intro hF
  ·refine zSR (zp1 rfl (qb ?_))
   obtain rfl := qj hF; replace hF := hK2
   exact qu qc h hF ⟨rfl, trivial⟩
  refine zKSR (zp1 rfl (zl 0 1 h rfl (zp1 rfl (qb ?_))))
  refine qq rfl hF ?_ ?_ <;> intro hF
  ·refine qE (zp2 rfl (zl 0 2 h rfl ?_))
   obtain ⟨y6, hy6, hF⟩ := qd hF
   have he6 := qg hy6
   obtain ⟨b8, o_6, q6, cs8, hp6, hq6, -, hr7, hc12⟩ := (h.sl 1 rfl).1.at hy6
   obtain rfl := hr7
   refine zx hp6 hq6 ⟨he6.1, qa0 he6.2.1 (h.sl 1 rfl).2⟩ rfl (zc 0 hc12 rfl (zp1 rfl ?_))
   obtain ⟨y7, hy7, hF⟩ := qd hF
   have he7 := qg hy7
   obtain ⟨b9, o_7, q7, cs9, hp7, hq7, -, hr8, hc13⟩ := (h.sl 1 rfl).1.at hy7
   obtain rfl := hr8
   refine zx hp7 hq7 ⟨he7.1, qa0 he7.2.1 (h.sl 1 rfl).2⟩ rfl (qfj qc 1 0 (W64 (y6 + 1)) h rfl hy7 hp7 hq7 rfl hc13 rfl rfl rfl rfl rfl rfl rfl ?_)
   intro w12 h
   refine zNER (zp2 rfl (qb ?_))
   replace h := h.pick [1, 2] rfl
   exact qA m2 [(3, _), (5, _), (49, _), (50, _), (51, _)] (Nat.lt_succ_self m2) ⟨rfl, rfl, rfl, rfl, rfl, trivial⟩ ⟨_, _, hF, rfl, h⟩
  refine zKER (zp2 rfl (qb ?_))
  replace h := h.pick [1, 2] rfl
  exact qA m2 [(3, _), (5, _), (49, _), (50, _), (51, _)] (Nat.lt_succ_self m2) ⟨rfl, rfl, rfl, rfl, rfl, trivial⟩ ⟨_, _, hF, rfl, h⟩
 refine qI rfl ?_
 obtain rfl := qj hF; replace hF := hK2
 refine zSR (zp1 rfl ?_)
 obtain ⟨r4, hr11, hF⟩ := qd hF
 refine ql r4 h call128 (qeR (h.own 0 rfl) hr11) rfl rfl rfl rfl ?_
 intro w16 h
 exact zp2 rfl (qb (qu qc h hF ⟨rfl, trivial⟩))

def qa2 (i1 : Int) (y1 : qp) : Nat → (List Tplace) → Int → Option ((List Tplace) × Int)
 | 0, _, _ => none
 | n + 1, x2, i2 =>
  bif decide (i2 < (y1.Nets.length : Int)) then
   (idx y1.Nets i2).bind fun y2 =>
   (appS x2 ([(⟨i1, i2, y2, (i2 == (W64 ((y1.Nets.length : Int) - 1)))⟩ : Tplace)] : List Tplace)).bind fun x3 =>
   qa2 i1 y1 n x3 (W64 (i2 + 1))
  else
   some (x2, i2)

def qa3 (d : qk) : Nat → (List Tplace) → Int → Option ((List Tplace) × Int)
 | 0, _, _ => none
 | n + 1, x4, i3 =>
  bif decide (i3 < (d.Ports.length : Int)) then
   (idx d.Ports i3).bind fun y3 =>
   (appS x4 ([(⟨(-1), i3, y3.Net, (y3.Dir == 1)⟩ : Tplace)] : List Tplace)).bind fun x5 =>
   qa3 d n x5 (W64 (i3 + 1))
  else
   some (x4, i3)

def qa4 (d : qk) : Nat → (List Tplace) → Int → Option ((List Tplace) × Int)
 | 0, _, _ => none
 | n + 1, x1, i1 =>
  bif decide (i1 < (d.Instances.length : Int)) then
   (idx d.Instances i1).bind fun y1 =>
   (qa2 i1 y1 n x1 0).bind fun o => match o with
   | (x2, _) =>
    qa4 d n x2 (W64 (i1 + 1))
  else
   some (x1, i1)

def qbR (n : Nat) (d : qk) : Option (List Tplace) :=
 (qa4 d n ([] : List Tplace) 0).bind fun o => match o with
 | (x1, _) =>
  (qa3 d n x1 0).bind fun o => match o with
  | (x4, _) =>
   some x4

theorem qdZ {n : Nat} {w : World} {d : qk} {cs1 : List Value} (ha1 : GoT.R w (old w) d cs1) {r : (List Tplace)} (hF : qbR n d = some r) : RetV Tryz.prog 76 [GoT.v qk cs1] w r := by
 obtain ⟨p1, k1, p2, k2, p3, k3, rfl, s1, s2, s3⟩ := qan ha1
 refine qe Tryz.func76 rfl (m := 61) rfl rfl (fun h => ?_)
 rw [qbR] at hF
 refine zSR (qM h rfl rfl ?_)
 intro w1 bb1 h
 refine zp1 rfl (zNSR (zp1 rfl (zNSSR (zp1 rfl (zl 0 0 h rfl (zp1 rfl ?_))))))
 refine zp1 rfl (qb ?_)
 replace h := h.nil (α := Tplace)
 obtain ⟨o1, hF, hK1⟩ := qd hF
 refine qz (qT [(1, _), (3, _), (11, _), (12, _), (13, _)] ⟨rfl, rfl, rfl, rfl, rfl, trivial⟩ ?_)
 refine qH (fun m e w' => ∃ (S1 : Nat → Prop) (p4 : Option Addr) (ln1 : Nat) (k4 : Nat) (x1 : (List Tplace)) (i1 : Int), qa4 d m x1 i1 = some o1 ∧ e = [(1, .pointer (some ⟨bb1, 0, none⟩)), (3, .slice p4 ln1 k4), (11, .slice p1 d.Instances.length k1), (12, .int .i64 (d.Instances.length : Int)), (13, .int .i64 i1)] ∧ SH w w' [Ch.own S1 (x1 : List Tplace) [.slice p4 ln1 k4], Ch.box bb1 [.slice p1 d.Instances.length k1, .slice p2 d.Nets.length k2, .slice p3 d.Ports.length k3] 45]) n ⟨_, _, _, _, _, _, hF, rfl, h⟩ ?_
 rintro m1 e1 w2 ⟨S1, p4, ln1, k4, x1, i1, hF, rfl, h⟩
 obtain rfl := (h.sl 0 rfl).2
 rcases m1 with _ | m1
 ·rw [qa4] at hF
  cases hF
 rw [qa4] at hF
 refine zSR (zp1 rfl (zNS ?_))
 refine qq rfl hF ?_ ?_ <;> intro hF
 ·refine zKSBSR (zp1 rfl ?_)
  obtain ⟨y1, hy1, hF⟩ := qd hF
  have he1 := qg hy1
  obtain ⟨b1, o_1, q1, cs2, hp1, hq1, -, hr1, hc2⟩ := s1.at hy1
  obtain ⟨p5, k5, rfl, s4⟩ := qX hr1
  refine zxe hp1 hq1 he1 rfl (zc 0 (hc2.below h.below) rfl (qU qc h rfl rfl rfl ?_))
  intro w3 bb2 h
  refine zp1 rfl (zs 0 h rfl ?_)
  intro w4 h
  replace h : SH _ _ [Ch.box bb2 [.string y1.Name, .int .i64 y1.Cell, .slice p5 y1.Nets.length k5] 126, Ch.own S1 (x1 : List Tplace) [.slice p4 x1.length k4], Ch.box bb1 [.slice p1 d.Instances.length k1, .slice p2 d.Nets.length k2, .slice p3 d.Ports.length k3] 45] := h
  refine zNSR (zp1 rfl (zl 0 2 h rfl (zp2 rfl (qb ?_))))
  obtain ⟨o2, hF, hK2⟩ := qd hF
  refine qz (qT [(1, _), (3, _), (4, _), (5, _), (11, _), (12, _), (13, _), (19, _), (20, _), (21, _)] ⟨rfl, rfl, rfl, rfl, rfl, rfl, rfl, rfl, rfl, rfl, trivial⟩ ?_)
  refine qH (fun m e w' => ∃ (S2 : Nat → Prop) (p6 : Option Addr) (ln2 : Nat) (k6 : Nat) (x2 : (List Tplace)) (i2 : Int), qa2 i1 y1 m x2 i2 = some o2 ∧ e = [(1, .pointer (some ⟨bb1, 0, none⟩)), (3, .slice p6 ln2 k6), (4, .int .i64 i1), (5, .pointer (some ⟨bb2, 0, none⟩)), (11, .slice p1 d.Instances.length k1), (12, .int .i64 (d.Instances.length : Int)), (13, .int .i64 i1), (19, .slice p5 y1.Nets.length k5), (20, .int .i64 (y1.Nets.length : Int)), (21, .int .i64 i2)] ∧ SH w w' [Ch.box bb2 [.string y1.Name, .int .i64 y1.Cell, .slice p5 y1.Nets.length k5] 126, Ch.own S2 (x2 : List Tplace) [.slice p6 ln2 k6], Ch.box bb1 [.slice p1 d.Instances.length k1, .slice p2 d.Nets.length k2, .slice p3 d.Ports.length k3] 45]) m1 ⟨_, _, _, _, _, _, hF, rfl, h⟩ ?_
  rintro m2 e2 w5 ⟨S2, p6, ln2, k6, x2, i2, hF, rfl, h⟩
  obtain rfl := (h.sl 1 rfl).2
  rcases m2 with _ | m2
  ·rw [qa2] at hF
   cases hF
  rw [qa2] at hF
  refine zSR (zp1 rfl (zNS ?_))
  refine qq rfl hF ?_ ?_ <;> intro hF
  ·refine zKSBSR (zp1 rfl ?_)
   obtain ⟨y2, hy2, hF⟩ := qd hF
   have he2 := qg hy2
   obtain ⟨b2, o_2, q2, cs3, hp2, hq2, -, hr2, hc4⟩ := s4.at hy2
   obtain rfl := hr2
   refine zxe hp2 hq2 he2 rfl (zc 0 (hc4.below h.below) rfl (zp2 rfl (qb (qE (zp5 rfl (zp1 rfl ?_))))))
   refine zl 0 2 h rfl (zp3 rfl (r_v (qgr qc [0, 1, 2, 3] [.tmp 27, .tmp 28, .tmp 29, .tmp 35] rfl rfl rfl rfl rfl rfl rfl rfl) rfl (qaP qc [.tmp 36] _ ([(⟨i1, i2, y2, (i2 == (W64 ((y1.Nets.length : Int) - 1)))⟩ : Tplace)] : List Tplace) h rfl rfl rfl rfl rfl rfl rfl rfl rfl ⟨(qgT (⟨i1, i2, y2, (i2 == (W64 ((y1.Nets.length : Int) - 1)))⟩ : Tplace)), trivial⟩ rfl ?_)))
   intro w6 p7 S3 h
   obtain ⟨x3, hx1, hF⟩ := qd hF
   obtain ⟨g1, hx1⟩ := qbr hx1
   refine qeq qc 2 h rfl (h.sl 0 rfl).1 (h.sl 0 rfl).2 rfl rfl rfl rfl rfl rfl rfl rfl rfl g1 hx1 rfl ?_
   intro w7 p8 k7 S4 h
   refine zp1 rfl (zNER (zp2 rfl (qb ?_)))
   replace h := h.pick [1, 2, 3] rfl
   exact qA m2 [(1, _), (3, _), (4, _), (5, _), (11, _), (12, _), (13, _), (19, _), (20, _), (21, _)] (Nat.lt_succ_self m2) ⟨rfl, rfl, rfl, rfl, rfl, rfl, rfl, rfl, rfl, rfl, trivial⟩ ⟨_, _, _, _, _, _, hF, rfl, h⟩
  refine qI rfl ?_
  obtain rfl := qj hF; replace hF := hK2
  refine qfL (qE (zp2 rfl (qb ?_)))
  replace h := h.pick [1, 2] rfl
  exact qA m1 [(1, _), (3, _), (11, _), (12, _), (13, _)] (Nat.lt_succ_self m1) ⟨rfl, rfl, rfl, rfl, rfl, trivial⟩ ⟨_, _, _, _, _, _, hF, rfl, h⟩
 refine qI rfl ?_
 obtain rfl := qj hF; replace hF := hK1
 refine zSSR (zp1 rfl (zl 1 2 h rfl (zp2 rfl (qb ?_))))
 obtain ⟨o3, hF, hK3⟩ := qd hF
 refine qz ?_
 replace h := h.pick [0] rfl
 refine qT [(3, _), (42, _), (43, _), (44, _)] ⟨rfl, rfl, rfl, rfl, trivial⟩ ?_
 refine qH (fun m e w' => ∃ (S5 : Nat → Prop) (p9 : Option Addr) (ln3 : Nat) (k8 : Nat) (x4 : (List Tplace)) (i3 : Int), qa3 d m x4 i3 = some o3 ∧ e = [(3, .slice p9 ln3 k8), (42, .slice p3 d.Ports.length k3), (43, .int .i64 (d.Ports.length : Int)), (44, .int .i64 i3)] ∧ SH w w' [Ch.own S5 (x4 : List Tplace) [.slice p9 ln3 k8]]) n ⟨_, _, _, _, _, _, hF, rfl, h⟩ ?_
 rintro m3 e3 w8 ⟨S5, p9, ln3, k8, x4, i3, hF, rfl, h⟩
 obtain rfl := (h.sl 0 rfl).2
 rcases m3 with _ | m3
 ·rw [qa3] at hF
  cases hF
 rw [qa3] at hF
 refine zSR (zp1 rfl (zNS ?_))
 refine qq rfl hF ?_ ?_ <;> intro hF
 ·refine zKSBSR (zp1 rfl ?_)
  obtain ⟨y3, hy3, hF⟩ := qd hF
  have he3 := qg hy3
  obtain ⟨b3, o_3, q3, cs4, hp3, hq3, -, hr3, hc6⟩ := s3.at hy3
  obtain rfl := qbt hr3
  refine zxe hp3 hq3 he3 rfl (zc 0 (hc6.below h.below) rfl (qU qc h rfl rfl rfl ?_))
  intro w9 bb3 h
  refine zp1 rfl (zs 0 h rfl ?_)
  intro w10 h
  refine qb (qE (zp3 rfl (zl 0 2 h rfl (zp1 rfl (zl 0 1 h rfl (zp1 rfl (r_v (qgr qc [0, 1, 2, 3] [.const (.int .i64 (-1)), .tmp 50, .tmp 52, .tmp 55] rfl rfl rfl rfl rfl rfl rfl rfl) rfl (qaP qc [.tmp 56] _ ([(⟨(-1), i3, y3.Net, (y3.Dir == 1)⟩ : Tplace)] : List Tplace) h rfl rfl rfl rfl rfl rfl rfl rfl rfl ⟨(qgT (⟨(-1), i3, y3.Net, (y3.Dir == 1)⟩ : Tplace)), trivial⟩ rfl ?_))))))))
  intro w11 p10 S6 h
  obtain ⟨x5, hx2, hF⟩ := qd hF
  obtain ⟨g2, hx2⟩ := qbr hx2
  refine qeq qc 2 h rfl (h.sl 0 rfl).1 (h.sl 0 rfl).2 rfl rfl rfl rfl rfl rfl rfl rfl rfl g2 hx2 rfl ?_
  intro w12 p11 k9 S7 h
  refine zp1 rfl (zNER (zp2 rfl (qb ?_)))
  replace h := h.pick [2] rfl
  exact qA m3 [(3, _), (42, _), (43, _), (44, _)] (Nat.lt_succ_self m3) ⟨rfl, rfl, rfl, rfl, trivial⟩ ⟨_, _, _, _, _, _, hF, rfl, h⟩
 refine qI rfl ?_
 obtain rfl := qj hF; replace hF := hK3
 refine zSR (zp2 rfl (qb ?_))
 obtain rfl := qj hF
 exact qap qc (ρ := (List Tplace)) [GoT.v (List Tplace) [.slice p9 x4.length k8]] h ⟨rfl, trivial⟩ (PV.done h (qav (qaz 0 h rfl)))

def qaO (a_w : qad) : Nat → Int → Option (Flow Bool Int)
 | 0, _ => none
 | n + 1, i1 =>
  bif decide (i1 < (a_w.Parent.length : Int)) then
   (idx a_w.Parent i1).bind fun y1 =>
   bif (i1 == 0) then
    bif (y1 != (-1)) then
     some (.ret false)
    else
     (idx a_w.Res 0).bind fun y2 =>
     bif (y2 != 0) then
      some (.ret false)
     else
      bif decide (i1 > 0) then
       (qaM n y1 0 (W64 (i1 - 1))).bind fun r1 =>
       bif (!r1) then
        some (.ret false)
       else
        qaO a_w n (W64 (i1 + 1))
      else
       qaO a_w n (W64 (i1 + 1))
   else
    bif decide (i1 > 0) then
     (qaM n y1 0 (W64 (i1 - 1))).bind fun r2 =>
     bif (!r2) then
      some (.ret false)
     else
      qaO a_w n (W64 (i1 + 1))
    else
     qaO a_w n (W64 (i1 + 1))
  else
   some (.nxt i1)

def qeN (n : Nat) (a_w : qad) : Option Bool :=
 (qaO a_w n 0).bind fun o => match o with
 | .ret r => some r
 | .nxt _ =>
  some true

theorem qjx {n : Nat} {w : World} {a_w : qad} {cs1 : List Value} (ha1 : GoT.R w (old w) a_w cs1) {r : Bool} (hF : qeN n a_w = some r) : RetV Tryz.prog 130 [GoT.v qad cs1] w r := by
 obtain ⟨p1, k1, p2, k2, p3, k3, p4, k4, rfl, s1, s2, s3, s4⟩ := qbI ha1
 refine qe Tryz.func130 rfl (m := 38) rfl rfl (fun h => ?_)
 rw [qeN] at hF
 refine zSR (qM h rfl rfl ?_)
 intro w1 bb1 h
 refine zp1 rfl (zNSSR (zp1 rfl (zl 0 0 h rfl (zp2 rfl (qb ?_)))))
 obtain ⟨o1, hF, hK1⟩ := qd hF
 refine qz (qT [(1, _), (6, _), (7, _), (8, _)] ⟨rfl, rfl, rfl, rfl, trivial⟩ ?_)
 refine qH (fun m e w' => ∃ (i1 : Int), qaO a_w m i1 = some o1 ∧ e = [(1, .pointer (some ⟨bb1, 0, none⟩)), (6, .slice p1 a_w.Parent.length k1), (7, .int .i64 (a_w.Parent.length : Int)), (8, .int .i64 i1)] ∧ SH w w' [Ch.box bb1 [.slice p1 a_w.Parent.length k1, .slice p2 a_w.Res.length k2, .slice p3 a_w.Cap.length k3, .slice p4 a_w.Sink.length k4] 117]) n ⟨_, hF, rfl, h⟩ ?_
 rintro m1 e1 w2 ⟨i1, hF, rfl, h⟩
 rcases m1 with _ | m1
 ·rw [qaO] at hF
  cases hF
 rw [qaO] at hF
 refine zSR (zp1 rfl (zNS ?_))
 refine qq rfl hF ?_ ?_ <;> intro hF
 ·refine zKSBSR (zp1 rfl ?_)
  obtain ⟨y1, hy1, hF⟩ := qd hF
  have he1 := qg hy1
  obtain ⟨b1, o_1, q1, cs2, hp1, hq1, -, hr1, hc2⟩ := s1.at hy1
  obtain rfl := hr1
  refine zxe hp1 hq1 he1 rfl (zc 0 (hc2.below h.below) rfl (zp2 rfl (zNSR (zp3 rfl ?_))))
  by_cases hc3 : (i1 == 0) = true
  ·replace hF := bifT hc3 hF
   refine qC hc3 (t := 15) rfl (qa rfl (zp1 rfl (qa rfl (zp1 rfl (qa rfl (zp1 rfl ?_))))))
   by_cases hc4 : (y1 != (-1)) = true
   ·replace hF := bifT hc4 hF
    refine qC hc4 (t := 18) rfl (zn5 rfl (qa rfl (zp3 rfl (zn2 rfl ?_))))
    refine zn5 rfl (zn2 rfl (zp1 rfl (qb (qef rfl rfl (zSR ?_)))))
    refine zp1 rfl (qb ?_)
    obtain rfl := qj hF; replace hF := hK1
    exact qu qc h hF ⟨rfl, trivial⟩
   replace hc4 := zb hc4
   replace hF := bifF hc4 hF
   refine qB hc4 (t := 18) rfl (qa rfl (zp1 rfl (qa rfl (zl 0 1 h rfl (qa rfl ?_)))))
   obtain ⟨y2, hy2, hF⟩ := qd hF
   have he2 := qg hy2
   obtain ⟨b2, o_2, q2, cs3, hp2, hq2, -, hr2, hc5⟩ := s2.at hy2
   obtain rfl := hr2
   refine zxe hp2 hq2 he2 rfl (qa rfl (zc 0 (hc5.below h.below) rfl (qa rfl (zp1 rfl (qa rfl (zp3 rfl ?_))))))
   by_cases hc6 : (y2 != 0) = true
   ·replace hF := bifT hc6 hF
    refine qC hc6 (t := 26) rfl (zn5 rfl (zn4 rfl (zp1 rfl (qb ?_))))
    refine qef rfl rfl (zSR (zp1 rfl (qb ?_)))
    obtain rfl := qj hF; replace hF := hK1
    exact qu qc h hF ⟨rfl, trivial⟩
   replace hc6 := zb hc6
   replace hF := bifF hc6 hF
   refine qB hc6 (t := 26) rfl (qa rfl (zp1 rfl (qa rfl (zp1 rfl (qa rfl (zp1 rfl ?_))))))
   by_cases hc7 : (decide (i1 > 0)) = true
   ·replace hF := bifT hc7 hF
    refine qC hc7 (t := 29) rfl (qa rfl (zp1 rfl (qa rfl (zp1 rfl (qa rfl (zp1 rfl (qa rfl ?_)))))))
    obtain ⟨r1, hr3, hF⟩ := qd hF
    refine ql r1 h call100 (qaw hr3) rfl rfl rfl rfl ?_
    intro w3 h
    refine qa rfl (zp1 rfl (qa rfl (zp2 rfl (qb ?_))))
    refine qq rfl hF ?_ ?_ <;> intro hF
    ·refine zSR (zp1 rfl (qb ?_))
     obtain rfl := qj hF; replace hF := hK1
     exact qu qc h hF ⟨rfl, trivial⟩
    exact zKER (zp2 rfl (qb (qA m1 [(1, _), (6, _), (7, _), (8, _)] (Nat.lt_succ_self m1) ⟨rfl, rfl, rfl, rfl, trivial⟩ ⟨_, hF, rfl, h⟩)))
   replace hc7 := zb hc7
   replace hF := bifF hc7 hF
   refine qB hc7 (t := 29) rfl (zn5 rfl (qa rfl (zp2 rfl (qb (qc3 rfl rfl (qd4 ?_))))))
   exact qfL (qE (zp2 rfl (qb (qA m1 [(1, _), (6, _), (7, _), (8, _)] (Nat.lt_succ_self m1) ⟨rfl, rfl, rfl, rfl, trivial⟩ ⟨_, hF, rfl, h⟩))))
  replace hc3 := zb hc3
  replace hF := bifF hc3 hF
  refine qB hc3 (t := 15) rfl (zn5 rfl (zn4 rfl (zp2 rfl ?_)))
  refine qa rfl (zp1 rfl (qa rfl (zp1 rfl (qa rfl (zp1 rfl ?_)))))
  by_cases hc9 : (decide (i1 > 0)) = true
  ·replace hF := bifT hc9 hF
   refine qC hc9 (t := 29) rfl (qa rfl (zp1 rfl (qa rfl (zp1 rfl (qa rfl (zp1 rfl (qa rfl ?_)))))))
   obtain ⟨r2, hr4, hF⟩ := qd hF
   refine ql r2 h call100 (qaw hr4) rfl rfl rfl rfl ?_
   intro w4 h
   refine qa rfl (zp1 rfl (qa rfl (zp2 rfl (qb ?_))))
   refine qq rfl hF ?_ ?_ <;> intro hF
   ·refine zSR (zp1 rfl (qb ?_))
    obtain rfl := qj hF; replace hF := hK1
    exact qu qc h hF ⟨rfl, trivial⟩
   exact zKER (zp2 rfl (qb (qA m1 [(1, _), (6, _), (7, _), (8, _)] (Nat.lt_succ_self m1) ⟨rfl, rfl, rfl, rfl, trivial⟩ ⟨_, hF, rfl, h⟩)))
  replace hc9 := zb hc9
  replace hF := bifF hc9 hF
  refine qB hc9 (t := 29) rfl (zn5 rfl (qa rfl (zp2 rfl (qb (qc3 rfl rfl (qd4 ?_))))))
  exact qfL (qE (zp2 rfl (qb (qA m1 [(1, _), (6, _), (7, _), (8, _)] (Nat.lt_succ_self m1) ⟨rfl, rfl, rfl, rfl, trivial⟩ ⟨_, hF, rfl, h⟩))))
 refine qI rfl ?_
 obtain rfl := qj hF; replace hF := hK1
 exact zSR (zp1 rfl (qb (qu qc h hF ⟨rfl, trivial⟩)))

def qhc (n : Nat) (a_w : qad) (sinks : Int) : Option Bool :=
 (qah n a_w.Parent).bind fun r1 =>
 (qaM n r1 1 8).bind fun r2 =>
 bif r2 then
  (qah n a_w.Res).bind fun r3 =>
  bif (r3 == r1) then
   (qah n a_w.Cap).bind fun r4 =>
   bif (r4 == r1) then
    (qeN n a_w).bind fun r5 =>
    bif r5 then
     (qbs n a_w.Res 0 1000).bind fun r6 =>
     bif r6 then
      (qbs n a_w.Cap 0 500).bind fun r7 =>
      bif r7 then
       (qah n a_w.Sink).bind fun r8 =>
       bif (r8 == sinks) then
        (qbs n a_w.Sink 0 (W64 (r1 - 1))).bind fun r9 =>
        some r9
       else
        some false
      else
       some false
     else
      some false
    else
     some false
   else
    some false
  else
   some false
 else
  some false

theorem qlB {n : Nat} {w : World} {a_w : qad} {sinks : Int} {cs1 : List Value} (ha1 : GoT.R w (old w) a_w cs1) {r : Bool} (hF : qhc n a_w sinks = some r) : RetV Tryz.prog 77 [GoT.v qad cs1, .int .i64 sinks] w r := by
 obtain ⟨p1, k1, p2, k2, p3, k3, p4, k4, rfl, s1, s2, s3, s4⟩ := qbI ha1
 refine qe Tryz.func77 rfl (m := 53) rfl rfl (fun h => ?_)
 rw [qhc] at hF
 refine zSR (qM h rfl rfl ?_)
 intro w1 bb1 h
 refine zp1 rfl (zNSR (zp1 rfl (zl 0 0 h rfl ?_)))
 obtain ⟨r1, hr1, hF⟩ := qd hF
 refine qQ r1 h call79 (qbe ⟨_, _, rfl, (h.oldS s1)⟩ hr1) rfl rfl rfl rfl ?_
 intro w2 h
 refine zp1 rfl (zNSR (zp1 rfl ?_))
 obtain ⟨r2, hr2, hF⟩ := qd hF
 refine ql r2 h call100 (qaw hr2) rfl rfl rfl rfl ?_
 intro w3 h
 refine zp1 rfl ?_
 by_cases hc1 : r2 = true
 ·replace hF := bifT hc1 hF
  refine qC hc1 (t := 11) rfl (qa rfl (zp1 rfl (qa rfl (zl 0 1 h rfl (qa rfl ?_)))))
  obtain ⟨r3, hr3, hF⟩ := qd hF
  refine qQ r3 h call79 (qbe ⟨_, _, rfl, (h.oldS s2)⟩ hr3) rfl rfl rfl rfl ?_
  intro w4 h
  refine qa rfl (zp1 rfl (qa rfl (zp3 rfl ?_)))
  by_cases hc2 : (r3 == r1) = true
  ·replace hF := bifT hc2 hF
   refine qC hc2 (t := 18) rfl (qa rfl (zp1 rfl (qa rfl (zl 0 2 h rfl (qa rfl ?_)))))
   obtain ⟨r4, hr4, hF⟩ := qd hF
   refine qQ r4 h call79 (qbe ⟨_, _, rfl, (h.oldS s3)⟩ hr4) rfl rfl rfl rfl ?_
   intro w5 h
   refine qa rfl (zp1 rfl (qa rfl (zp3 rfl ?_)))
   by_cases hc3 : (r4 == r1) = true
   ·replace hF := bifT hc3 hF
    refine qC hc3 (t := 25) rfl (qa rfl (zl 0 0 h rfl (qa rfl ?_)))
    obtain ⟨r5, hr5, hF⟩ := qd hF
    refine ql r5 h call130 (qjx (h.old ha1) hr5) rfl rfl rfl rfl ?_
    intro w6 h
    refine zp2 rfl ?_
    by_cases hc4 : r5 = true
    ·replace hF := bifT hc4 hF
     refine qC hc4 (t := 29) rfl (qa rfl (zp1 rfl (qa rfl (zl 0 1 h rfl (qa rfl ?_)))))
     obtain ⟨r6, hr6, hF⟩ := qd hF
     refine ql r6 h call82 (qb9 ⟨_, _, rfl, (h.oldS s2)⟩ hr6) rfl rfl rfl rfl ?_
     intro w7 h
     refine zp2 rfl ?_
     by_cases hc5 : r6 = true
     ·replace hF := bifT hc5 hF
      refine qC hc5 (t := 34) rfl (qa rfl (zp1 rfl (qa rfl (zl 0 2 h rfl (qa rfl ?_)))))
      obtain ⟨r7, hr7, hF⟩ := qd hF
      refine ql r7 h call82 (qb9 ⟨_, _, rfl, (h.oldS s3)⟩ hr7) rfl rfl rfl rfl ?_
      intro w8 h
      refine zp2 rfl ?_
      by_cases hc6 : r7 = true
      ·replace hF := bifT hc6 hF
       refine qC hc6 (t := 39) rfl (qa rfl (zp1 rfl (qa rfl (zl 0 3 h rfl (qa rfl ?_)))))
       obtain ⟨r8, hr8, hF⟩ := qd hF
       refine qQ r8 h call79 (qbe ⟨_, _, rfl, (h.oldS s4)⟩ hr8) rfl rfl rfl rfl ?_
       intro w9 h
       refine qa rfl (zp1 rfl (qa rfl (zp3 rfl ?_)))
       by_cases hc7 : (r8 == sinks) = true
       ·replace hF := bifT hc7 hF
        refine qC hc7 (t := 46) rfl (qa rfl (zp1 rfl (qa rfl (zl 0 3 h rfl (qa rfl (zp1 rfl (qa rfl (zp1 rfl (qa rfl ?_)))))))))
        obtain ⟨r9, hr9, hF⟩ := qd hF
        refine ql r9 h call82 (qb9 ⟨_, _, rfl, (h.oldS s4)⟩ hr9) rfl rfl rfl rfl ?_
        intro w10 h
        exact zp2 rfl (qb (qu qc h hF ⟨rfl, trivial⟩))
       replace hc7 := zb hc7
       replace hF := bifF hc7 hF
       exact qB hc7 (t := 46) rfl (zn5 rfl (zp2 rfl (qb (qu qc h hF ⟨rfl, trivial⟩))))
      replace hc6 := zb hc6
      replace hF := bifF hc6 hF
      refine qB hc6 (t := 39) rfl (zn5 rfl (zp2 rfl (zn4 rfl ?_)))
      exact zn1 rfl (zp2 rfl (qb (qu qc h hF ⟨rfl, trivial⟩)))
     replace hc5 := zb hc5
     replace hF := bifF hc5 hF
     refine qB hc5 (t := 34) rfl (zn3 rfl (zp2 rfl (zn5 rfl (zp1 rfl ?_))))
     exact zp1 rfl (zn5 rfl (zp2 rfl (qb (qu qc h hF ⟨rfl, trivial⟩))))
    replace hc4 := zb hc4
    replace hF := bifF hc4 hF
    refine qB hc4 (t := 29) rfl (zn3 rfl (zp2 rfl (zn3 rfl (zp2 rfl (zn1 rfl ?_)))))
    refine zn4 rfl (zp2 rfl (zn5 rfl (zp1 rfl ?_)))
    exact zp1 rfl (qb (qu qc h hF ⟨rfl, trivial⟩))
   replace hc3 := zb hc3
   replace hF := bifF hc3 hF
   refine qB hc3 (t := 25) rfl (zn2 rfl (zp2 rfl (zn3 rfl (zp2 rfl (zn2 rfl ?_)))))
   refine zn1 rfl (zp2 rfl (zn5 rfl (zp2 rfl (zn2 rfl ?_))))
   exact zn3 rfl (zp2 rfl (qb (qu qc h hF ⟨rfl, trivial⟩)))
  replace hc2 := zb hc2
  replace hF := bifF hc2 hF
  refine qB hc2 (t := 18) rfl (zn5 rfl (zp2 rfl (zn2 rfl (zp2 rfl ?_))))
  refine zn3 rfl (zp2 rfl (zn3 rfl (zp2 rfl (zn2 rfl ?_))))
  refine zn3 rfl (zp2 rfl (zn5 rfl (zp2 rfl ?_)))
  exact qb (qu qc h hF ⟨rfl, trivial⟩)
 replace hc1 := zb hc1
 replace hF := bifF hc1 hF
 refine qB hc1 (t := 11) rfl (zn5 rfl (zp2 rfl (zn4 rfl ?_)))
 refine zn1 rfl (zp2 rfl (zn2 rfl (zp2 rfl (zn3 rfl (zp2 rfl ?_)))))
 refine zn3 rfl (zp2 rfl (zn5 rfl (zp2 rfl ?_)))
 exact zn5 rfl (zp2 rfl (qb (qu qc h hF ⟨rfl, trivial⟩)))

def qcX (b : qy) (x2 : (List Int)) : Nat → Int → Option (Flow Bool Int)
 | 0, _ => none
 | n + 1, i2 =>
  bif decide (i2 < (b.Wires.length : Int)) then
   (idx b.Wires i2).bind fun y4 =>
   (idx x2 i2).bind fun y5 =>
   (qhc n y4 y5).bind fun r2 =>
   bif (!r2) then
    some (.ret false)
   else
    qcX b x2 n (W64 (i2 + 1))
  else
   some (.nxt i2)

def qbT (r1 : (List Tplace)) : Nat → (List Int) → Int → Option ((List Int) × Int)
 | 0, _, _ => none
 | n + 1, x2, i1 =>
  bif decide (i1 < (r1.length : Int)) then
   (idx r1 i1).bind fun y1 =>
   bif (!y1.drives) then
    (idx x2 y1.net).bind fun y2 =>
    (idx x2 y1.net).bind fun _ =>
    qbT r1 n (setS x2 y1.net (W64 (y2 + 1))) (W64 (i1 + 1))
   else
    qbT r1 n x2 (W64 (i1 + 1))
  else
   some (x2, i1)

def qgK (n : Nat) (b : qy) : Option Bool :=
 (
  (qfX n (⟨b.Library.Cells⟩ : qt) (⟨b.Design.Instances, b.Design.Nets, b.Design.Ports⟩ : qk)).bind fun r3 =>
  bif (!r3) then
   some true
  else
   some ((b.Wires.length : Int) != (b.Design.Nets.length : Int))).bind fun b1 =>
 bif b1 then
  some false
 else
  (mkS (b.Wires.length : Int) (0 : Int)).bind fun x1 =>
  (qbR n (⟨b.Design.Instances, b.Design.Nets, b.Design.Ports⟩ : qk)).bind fun r1 =>
  (qbT r1 n x1 0).bind fun o => match o with
  | (x2, _) =>
   (qcX b x2 n 0).bind fun o => match o with
   | .ret r => some r
   | .nxt _ =>
    some true

theorem qk4 {n : Nat} {w : World} {b : qy} {cs1 : List Value} (ha1 : GoT.R w (old w) b cs1) {r : Bool} (hF : qgK n b = some r) : RetV Tryz.prog 39 [GoT.v qy cs1] w r := by
 obtain ⟨p1, k1, p2, k2, p3, k3, p4, k4, p5, k5, rfl, s1, s2, s3, s4, s5⟩ := qas ha1
 refine qe Tryz.func39 rfl (m := 63) rfl rfl (fun h => ?_)
 rw [qgK] at hF
 refine zSR (qM h rfl rfl ?_)
 intro w1 bb1 h
 refine zp1 rfl (zNSS ?_)
 obtain ⟨KF1, hKF1, o3, hF, hK3⟩ := bindE hF
 refine qem (fun e w' => ∃ (b1 : Bool), KF1 b1 = some r ∧ e = [(1, .pointer (some ⟨bb1, 0, none⟩)), (23, .bool b1)] ∧ SH w w' [Ch.box bb1 [.slice p1 b.Library.Cells.length k1, .slice p2 b.Design.Instances.length k2, .slice p3 b.Design.Nets.length k3, .slice p4 b.Design.Ports.length k4, .slice p5 b.Wires.length k5] 48]) ?_ ?_
 ·refine qE (zp1 rfl (zl 0 0 h rfl (zp1 rfl (zl 0 1 h rfl ?_))))
  obtain ⟨r3, hr8, hF⟩ := qd hF
  refine ql r3 h call75 (qks (qdc (⟨b.Library.Cells⟩ : qt) (h.oldS s1)) (qba (⟨b.Design.Instances, b.Design.Nets, b.Design.Ports⟩ : qk) (h.oldS s2) (h.oldS s3) (h.oldS s4)) hr8) rfl rfl rfl rfl ?_
  intro w12 h
  refine zp2 rfl ?_
  by_cases hc11 : (!r3) = true
  ·replace hF := bifT hc11 hF
   refine qC hc11 (t := 14) rfl (zn5 rfl (zn3 rfl (zp1 rfl (qb ?_))))
   obtain rfl := qj hF
   exact qx [(1, _), (23, _)] ⟨rfl, rfl, trivial⟩ ⟨_, hK3, rfl, h⟩
  replace hc11 := zb hc11
  replace hF := bifF hc11 hF
  refine qB hc11 (t := 14) rfl (qa rfl (zp1 rfl (qa rfl (zl 0 4 h rfl (qa rfl (zp1 rfl (qa rfl (zp1 rfl (qa rfl (zp1 rfl (qa rfl ?_)))))))))))
  refine zl 0 2 h rfl (qa rfl (zp1 rfl (qa rfl (zp2 rfl (qb ?_)))))
  obtain rfl := qj hF
  exact qx [(1, _), (23, _)] ⟨rfl, rfl, trivial⟩ ⟨_, hK3, rfl, h⟩
 rintro e3 w13 ⟨b1, hF, rfl, h⟩
 subst hKF1
 refine qq rfl hF ?_ ?_ <;> intro hF
 ·exact zSR (zp1 rfl (qb (qu qc h hF ⟨rfl, trivial⟩)))
 refine zKSR (zp1 rfl (zl 0 4 h rfl (zp1 rfl ?_)))
 obtain ⟨x1, hx1, hF⟩ := qd hF
 obtain ⟨g1, g2, hx1⟩ := qdG hx1
 refine qeu qc Int h rfl rfl rfl rfl rfl rfl rfl rfl rfl g1 g2 hx1 rfl ?_
 intro w2 S1 p6 h
 refine zp1 rfl (zNSSR (zp1 rfl (zl 1 1 h rfl ?_)))
 obtain ⟨r1, hr1, hF⟩ := qd hF
 refine qak r1 h call76 (qdZ (qba (⟨b.Design.Instances, b.Design.Nets, b.Design.Ports⟩ : qk) (h.oldS s2) (h.oldS s3) (h.oldS s4)) hr1) rfl rfl rfl rfl ?_
 intro w3 S2 p7 k6 h
 refine zp2 rfl (qb ?_)
 obtain ⟨o1, hF, hK1⟩ := qd hF
 refine qz (qT [(1, _), (3, _), (30, _), (31, _), (32, _)] ⟨rfl, rfl, rfl, rfl, rfl, trivial⟩ ?_)
 refine qH (fun m e w' => ∃ (x2 : (List Int)) (i1 : Int), qbT r1 m x2 i1 = some o1 ∧ e = [(1, .pointer (some ⟨bb1, 0, none⟩)), (3, .slice p6 x1.length x1.length), (30, .slice p7 r1.length k6), (31, .int .i64 (r1.length : Int)), (32, .int .i64 i1)] ∧ SH w w' [Ch.own S2 (r1 : List Tplace) [.slice p7 r1.length k6], Ch.own S1 (x2 : List Int) [.slice p6 x1.length x1.length], Ch.box bb1 [.slice p1 b.Library.Cells.length k1, .slice p2 b.Design.Instances.length k2, .slice p3 b.Design.Nets.length k3, .slice p4 b.Design.Ports.length k4, .slice p5 b.Wires.length k5] 48]) n ⟨_, _, hF, rfl, h⟩ ?_
 rintro m1 e1 w4 ⟨x2, i1, hF, rfl, h⟩
 rcases m1 with _ | m1
 ·rw [qbT] at hF
  cases hF
 rw [qbT] at hF
 refine zSR (zp1 rfl (zNS ?_))
 refine qq rfl hF ?_ ?_ <;> intro hF
 ·refine zKSBSR ?_
  obtain ⟨y1, hy1, hF⟩ := qd hF
  have he1 := qg hy1
  obtain ⟨b2, o_1, q1, cs2, hp1, hq1, -, hr2, hc3⟩ := (h.sl 0 rfl).1.at hy1
  obtain rfl := qdh hr2
  refine zx hp1 hq1 ⟨he1.1, qa0 he1.2.1 (h.sl 0 rfl).2⟩ rfl (zc 0 hc3 rfl (qU qc h rfl rfl rfl ?_))
  intro w5 bb2 h
  refine zs 0 h rfl ?_
  intro w6 h
  refine zNSR (zp1 rfl (zl 0 3 h rfl (zp1 rfl (qb ?_))))
  refine qq rfl hF ?_ ?_ <;> intro hF
  ·refine qE (zp2 rfl (zl 0 2 h rfl ?_))
   obtain ⟨y2, hy2, hF⟩ := qd hF
   have he2 := qg hy2
   obtain ⟨b3, o_2, q2, cs3, hp2, hq2, -, hr3, hc5⟩ := (h.sl 2 rfl).1.at hy2
   obtain rfl := hr3
   refine zx hp2 hq2 ⟨he2.1, qa0 he2.2.1 (h.sl 2 rfl).2⟩ rfl (zc 0 hc5 rfl (zp1 rfl ?_))
   obtain ⟨y3, hy3, hF⟩ := qd hF
   have he3 := qg hy3
   obtain ⟨b4, o_3, q3, cs4, hp3, hq3, -, hr4, hc6⟩ := (h.sl 2 rfl).1.at hy3
   obtain rfl := hr4
   refine zx hp3 hq3 ⟨he3.1, qa0 he3.2.1 (h.sl 2 rfl).2⟩ rfl (qfj qc 2 0 (W64 (y2 + 1)) h rfl hy3 hp3 hq3 rfl hc6 rfl rfl rfl rfl rfl rfl rfl ?_)
   intro w7 h
   refine zNER (zp2 rfl (qb ?_))
   replace h := h.pick [1, 2, 3] rfl
   exact qA m1 [(1, _), (3, _), (30, _), (31, _), (32, _)] (Nat.lt_succ_self m1) ⟨rfl, rfl, rfl, rfl, rfl, trivial⟩ ⟨_, _, hF, rfl, h⟩
  refine zKER (zp2 rfl (qb ?_))
  replace h := h.pick [1, 2, 3] rfl
  exact qA m1 [(1, _), (3, _), (30, _), (31, _), (32, _)] (Nat.lt_succ_self m1) ⟨rfl, rfl, rfl, rfl, rfl, trivial⟩ ⟨_, _, hF, rfl, h⟩
 refine qI rfl ?_
 obtain rfl := qj hF; replace hF := hK1
 refine zSSR (zp1 rfl (zl 2 4 h rfl (zp2 rfl (qb ?_))))
 obtain ⟨o2, hF, hK2⟩ := qd hF
 refine qz ?_
 replace h := h.pick [1] rfl
 refine qT [(3, _), (48, _), (49, _), (50, _)] ⟨rfl, rfl, rfl, rfl, trivial⟩ ?_
 refine qH (fun m e w' => ∃ (i2 : Int), qcX b x2 m i2 = some o2 ∧ e = [(3, .slice p6 x1.length x1.length), (48, .slice p5 b.Wires.length k5), (49, .int .i64 (b.Wires.length : Int)), (50, .int .i64 i2)] ∧ SH w w' [Ch.own S1 (x2 : List Int) [.slice p6 x1.length x1.length]]) n ⟨_, hF, rfl, h⟩ ?_
 rintro m2 e2 w8 ⟨i2, hF, rfl, h⟩
 rcases m2 with _ | m2
 ·rw [qcX] at hF
  cases hF
 rw [qcX] at hF
 refine zSR (zp1 rfl (zNS ?_))
 refine qq rfl hF ?_ ?_ <;> intro hF
 ·refine zKSBSR (zp1 rfl ?_)
  obtain ⟨y4, hy4, hF⟩ := qd hF
  have he4 := qg hy4
  obtain ⟨b5, o_4, q4, cs5, hp4, hq4, -, hr5, hc8⟩ := s5.at hy4
  obtain ⟨p8, k7, p9, k8, p10, k9, p11, k10, rfl, s6, s7, s8, s9⟩ := qbI hr5
  refine zxe hp4 hq4 he4 rfl (zc 0 (hc8.below h.below) rfl (qU qc h rfl rfl rfl ?_))
  intro w9 bb3 h
  refine zp1 rfl (zs 0 h rfl ?_)
  intro w10 h
  replace h : SH _ _ [Ch.box bb3 [.slice p8 y4.Parent.length k7, .slice p9 y4.Res.length k8, .slice p10 y4.Cap.length k9, .slice p11 y4.Sink.length k10] 117, Ch.own S1 (x2 : List Int) [.slice p6 x1.length x1.length]] := h
  refine zNS ?_
  refine qco rfl (by kernel_rfl) ?_
  refine zdl 0 0 h rfl ?_
  refine zd2 rfl ?_
  obtain ⟨y5, hy5, hF⟩ := qd hF
  have he5 := qg hy5
  obtain ⟨b6, o_5, q5, cs6, hp5, hq5, -, hr6, hc9⟩ := (h.sl 1 rfl).1.at hy5
  obtain rfl := hr6
  refine zdx hp5 hq5 ⟨he5.1, qa0 he5.2.1 (h.sl 1 rfl).2⟩ rfl ?_
  refine zdc 0 hc9 rfl ?_
  obtain ⟨r2, hr7, hF⟩ := qd hF
  refine qcf r2 (vsB _) call77 (fun _ hb => qlB (qhE y4 ((h.ext hb).oldS s6) ((h.ext hb).oldS s7) ((h.ext hb).oldS s8) ((h.ext hb).oldS s9)) hr7) rfl rfl rfl rfl ?_
  refine zd1 rfl ?_
  refine qaX (fun w11 hb => ?_)
  replace h := h.ext hb
  clear hb
  refine qq rfl hF ?_ ?_ <;> intro hF
  ·refine zSR (zp1 rfl (qb ?_))
   obtain rfl := qj hF; replace hF := hK2
   exact qu qc h hF ⟨rfl, trivial⟩
  refine zKER (zp2 rfl (qb ?_))
  replace h := h.pick [1] rfl
  exact qA m2 [(3, _), (48, _), (49, _), (50, _)] (Nat.lt_succ_self m2) ⟨rfl, rfl, rfl, rfl, trivial⟩ ⟨_, hF, rfl, h⟩
 refine qI rfl ?_
 obtain rfl := qj hF; replace hF := hK2
 exact zSR (zp1 rfl (qb (qu qc h hF ⟨rfl, trivial⟩)))

end Go.Fw


namespace Go.Fw
open Go

def qcr (a : (List Int)) : Nat := a.length
theorem qcV {a : (List Int)} (h : (rngL rngI) a) (w : qcr a ≤ 1048576) : (okL okI) a :=
  ⟨by simp only [qcr] at w; omega, fun x hx => h.2 x hx⟩
def qgj (x : qF) : Prop := (rngL rngI) x.Slews ∧ (rngL rngI) x.Loads ∧ (rngL rngI) x.Values
def qeW (x : qF) : Nat := qcr x.Slews + qcr x.Loads + qcr x.Values
structure qgE (x : qF) : Prop where
  Slews : (okL okI) x.Slews
  Loads : (okL okI) x.Loads
  Values : (okL okI) x.Values
theorem qoi {x : qF} (h : qgj x) (w : qeW x ≤ 1048576) : qgE x := ⟨qcV (h.1) (by simp only [qeW] at w; omega), qcV (h.2.1) (by simp only [qeW] at w; omega), qcV (h.2.2) (by simp only [qeW] at w; omega)⟩
def qe7 (a : (List qF)) : Nat := a.length + (a.map fun x => qeW x).sum
theorem qkC {a : (List qF)} (h : (rngL qgj) a) (w : qe7 a ≤ 1048576) : (okL qgE) a :=
  ⟨by simp only [qe7] at w; omega, fun x hx => qoi (h.2 x hx) (by have := qd3 (wt := fun x : qF => qeW x) hx; simp only [qe7] at w; omega)⟩
def qiM (x : qac) : Prop := rngI x.Kind ∧ rngI x.From ∧ rngI x.To ∧ rngI x.Sense ∧ (rngL qgj) x.Delay ∧ (rngL qgj) x.Slew
def qh2 (x : qac) : Nat := qe7 x.Delay + qe7 x.Slew
structure qjQ (x : qac) : Prop where
  Kind : okI x.Kind
  From : okI x.From
  To : okI x.To
  Sense : okI x.Sense
  Delay : (okL qgE) x.Delay
  Slew : (okL qgE) x.Slew
theorem qpN {x : qac} (h : qiM x) (w : qh2 x ≤ 1048576) : qjQ x := ⟨h.1, h.2.1, h.2.2.1, h.2.2.2.1, qkC (h.2.2.2.2.1) (by simp only [qh2] at w; omega), qkC (h.2.2.2.2.2) (by simp only [qh2] at w; omega)⟩
theorem qdM {a : (List Int)} (h : qcr a ≤ 1048576) : Ev (fun n => qaT n a a) true := by
  have hl : a.length ≤ 1048576 := by simp only [qcr] at h; omega
  unfold qaT
  exact Ev.ff (by simp) (Ev.bind (b := .nxt (a.length : Int)) (qhA (eqf := fun _ x y => some (!(x != y))) (fun x _ => Ev.now (by simp))
    (fun n => by simp only [qc7, qw (Nat.le_refl _), cond_false])
    (fun n j x hx => by
      have hj := (List.getElem?_eq_some_iff.1 hx).1
      simp only [qc7, qv hj, cond_true, qaS hx, Option.bind_some, Bool.not_not, qr (show j < 9223372036854775807 by omega)])) .done)

theorem qpQ {a : qF} (h : qeW a ≤ 1048576) : Ev (fun n => qfB n a a) true := by
  unfold qfB
  simp only [qeW] at h
  exact Ev.bind (qdM (a := a.Slews) (by omega)) (Ev.ff rfl (Ev.bind (qdM (a := a.Loads) (by omega)) (Ev.ff rfl (Ev.bind (qdM (a := a.Values) (by omega)) (Ev.ff rfl (.done))))))

theorem qmg {a : (List qF)} (h : qe7 a ≤ 1048576) : Ev (fun n => qfg n a a) true := by
  have hl : a.length ≤ 1048576 := by simp only [qe7] at h; omega
  unfold qfg
  exact Ev.ff (by simp) (Ev.bind (b := .nxt (a.length : Int)) (qhA (eqf := qfB) (fun x hx => qpQ (by have := qd3 (wt := fun x : qF => qeW x) hx; simp only [qe7] at h; omega))
    (fun n => by simp only [qda, qw (Nat.le_refl _), cond_false])
    (fun n j x hx => by
      have hj := (List.getElem?_eq_some_iff.1 hx).1
      simp only [qda, qv hj, cond_true, qaS hx, Option.bind_some, qr (show j < 9223372036854775807 by omega)])) .done)

theorem qqW {a : qac} (h : qh2 a ≤ 1048576) : Ev (fun n => qg5 n a a) true := by
  unfold qg5
  simp only [qh2] at h
  exact Ev.ff qcd (Ev.ff qcd (Ev.ff qcd (Ev.ff qcd (Ev.bind (qmg (a := a.Delay) (by omega)) (Ev.ff rfl (Ev.bind (qmg (a := a.Slew) (by omega)) (Ev.ff rfl (.done))))))))

def qhM (a : (List qac)) : Nat := a.length + (a.map fun x => qh2 x).sum
theorem qo2 {a : (List qac)} (h : (rngL qiM) a) (w : qhM a ≤ 1048576) : (okL qjQ) a :=
  ⟨by simp only [qhM] at w; omega, fun x hx => qpN (h.2 x hx) (by have := qd3 (wt := fun x : qac => qh2 x) hx; simp only [qhM] at w; omega)⟩
theorem qp7 {a : (List qac)} (h : qhM a ≤ 1048576) : Ev (fun n => qhm n a a) true := by
  have hl : a.length ≤ 1048576 := by simp only [qhM] at h; omega
  unfold qhm
  exact Ev.ff (by simp) (Ev.bind (b := .nxt (a.length : Int)) (qhA (eqf := qg5) (fun x hx => qqW (by have := qd3 (wt := fun x : qac => qh2 x) hx; simp only [qhM] at h; omega))
    (fun n => by simp only [qdU, qw (Nat.le_refl _), cond_false])
    (fun n j x hx => by
      have hj := (List.getElem?_eq_some_iff.1 hx).1
      simp only [qdU, qv hj, cond_true, qaS hx, Option.bind_some, qr (show j < 9223372036854775807 by omega)])) .done)

def qiI (x : qaq) : Prop := rngS x.Name ∧ rngI x.Dir ∧ rngI x.Cap ∧ rngB x.Clock
def qjj (x : qaq) : Nat := x.Name.size
structure qiX (x : qaq) : Prop where
  Name : okS x.Name
  Dir : okI x.Dir
  Cap : okI x.Cap
  Clock : okT x.Clock
theorem qpx {x : qaq} (h : qiI x) (w : qjj x ≤ 1048576) : qiX x := ⟨(by unfold okS; simp only [qjj] at w; omega), h.2.1, h.2.2.1, trivial⟩
def qhL (a : (List qaq)) : Nat := a.length + (a.map fun x => qjj x).sum
theorem qoJ {a : (List qaq)} (h : (rngL qiI) a) (w : qhL a ≤ 1048576) : (okL qiX) a :=
  ⟨by simp only [qhL] at w; omega, fun x hx => qpx (h.2 x hx) (by have := qd3 (wt := fun x : qaq => qjj x) hx; simp only [qhL] at w; omega)⟩
def qhH (x : qD) : Prop := rngS x.Name ∧ rngI x.Kind ∧ (rngL qiI) x.Pins ∧ (rngL qiM) x.Arcs ∧ (rngL rngI) x.Truth ∧ rngI x.Leak ∧ rngI x.Energy
def qfN (x : qD) : Nat := x.Name.size + qhL x.Pins + qhM x.Arcs + qcr x.Truth
structure qjm (x : qD) : Prop where
  Name : okS x.Name
  Kind : okI x.Kind
  Pins : (okL qiX) x.Pins
  Arcs : (okL qjQ) x.Arcs
  Truth : (okL okI) x.Truth
  Leak : okI x.Leak
  Energy : okI x.Energy
theorem qoW {x : qD} (h : qhH x) (w : qfN x ≤ 1048576) : qjm x := ⟨(by unfold okS; simp only [qfN] at w; omega), h.2.1, qoJ (h.2.2.1) (by simp only [qfN] at w; omega), qo2 (h.2.2.2.1) (by simp only [qfN] at w; omega), qcV (h.2.2.2.2.1) (by simp only [qfN] at w; omega), h.2.2.2.2.2.1, h.2.2.2.2.2.2⟩
def qgB (a : (List qD)) : Nat := a.length + (a.map fun x => qfN x).sum
theorem qof {a : (List qD)} (h : (rngL qhH) a) (w : qgB a ≤ 1048576) : (okL qjm) a :=
  ⟨by simp only [qgB] at w; omega, fun x hx => qoW (h.2 x hx) (by have := qd3 (wt := fun x : qD => qfN x) hx; simp only [qgB] at w; omega)⟩
def qh1 (x : qt) : Prop := (rngL qhH) x.Cells
def qfG (x : qt) : Nat := qgB x.Cells
structure qf6 (x : qt) : Prop where
  Cells : (okL qjm) x.Cells
theorem qm2 {x : qt} (h : qh1 x) (w : qfG x ≤ 1048576) : qf6 x := ⟨qof (h) (by simp only [qfG] at w; omega)⟩
def qe0 (x : qp) : Prop := rngS x.Name ∧ rngI x.Cell ∧ (rngL rngI) x.Nets
def qcL (x : qp) : Nat := x.Name.size + qcr x.Nets
structure qi9 (x : qp) : Prop where
  Name : okS x.Name
  Cell : okI x.Cell
  Nets : (okL okI) x.Nets
theorem ql5 {x : qp} (h : qe0 x) (w : qcL x ≤ 1048576) : qi9 x := ⟨(by unfold okS; simp only [qcL] at w; omega), h.2.1, qcV (h.2.2) (by simp only [qcL] at w; omega)⟩
def qdj (a : (List qp)) : Nat := a.length + (a.map fun x => qcL x).sum
theorem qlu {a : (List qp)} (h : (rngL qe0) a) (w : qdj a ≤ 1048576) : (okL qi9) a :=
  ⟨by simp only [qdj] at w; omega, fun x hx => ql5 (h.2 x hx) (by have := qd3 (wt := fun x : qp => qcL x) hx; simp only [qdj] at w; omega)⟩
def qfJ (a : (List ByteArray)) : Nat := a.length + (a.map fun x => x.size).sum
theorem qmT {a : (List ByteArray)} (_ : (rngL rngS) a) (w : qfJ a ≤ 1048576) : (okL okS) a :=
  ⟨by simp only [qfJ] at w; omega, fun x hx => (by unfold okS; have := qd3 (wt := fun x : ByteArray => x.size) hx; simp only [qfJ] at w; omega)⟩
def qhR (x : qaj) : Prop := rngS x.Name ∧ rngI x.Dir ∧ rngI x.Net
def qhQ (x : qaj) : Nat := x.Name.size
structure qm8 (x : qaj) : Prop where
  Name : okS x.Name
  Dir : okI x.Dir
  Net : okI x.Net
theorem qoM {x : qaj} (h : qhR x) (w : qhQ x ≤ 1048576) : qm8 x := ⟨(by unfold okS; simp only [qhQ] at w; omega), h.2.1, h.2.2⟩
def qgQ (a : (List qaj)) : Nat := a.length + (a.map fun x => qhQ x).sum
theorem qnZ {a : (List qaj)} (h : (rngL qhR) a) (w : qgQ a ≤ 1048576) : (okL qm8) a :=
  ⟨by simp only [qgQ] at w; omega, fun x hx => qoM (h.2 x hx) (by have := qd3 (wt := fun x : qaj => qhQ x) hx; simp only [qgQ] at w; omega)⟩
def qiG (x : qk) : Prop := (rngL qe0) x.Instances ∧ (rngL rngS) x.Nets ∧ (rngL qhR) x.Ports
def qfu (x : qk) : Nat := qdj x.Instances + qfJ x.Nets + qgQ x.Ports
structure qhF (x : qk) : Prop where
  Instances : (okL qi9) x.Instances
  Nets : (okL okS) x.Nets
  Ports : (okL qm8) x.Ports
theorem qns {x : qk} (h : qiG x) (w : qfu x ≤ 1048576) : qhF x := ⟨qlu (h.1) (by simp only [qfu] at w; omega), qmT (h.2.1) (by simp only [qfu] at w; omega), qnZ (h.2.2) (by simp only [qfu] at w; omega)⟩
def qhP (x : qad) : Prop := (rngL rngI) x.Parent ∧ (rngL rngI) x.Res ∧ (rngL rngI) x.Cap ∧ (rngL rngI) x.Sink
def qfP (x : qad) : Nat := qcr x.Parent + qcr x.Res + qcr x.Cap + qcr x.Sink
structure qj5 (x : qad) : Prop where
  Parent : (okL okI) x.Parent
  Res : (okL okI) x.Res
  Cap : (okL okI) x.Cap
  Sink : (okL okI) x.Sink
theorem qoF {x : qad} (h : qhP x) (w : qfP x ≤ 1048576) : qj5 x := ⟨qcV (h.1) (by simp only [qfP] at w; omega), qcV (h.2.1) (by simp only [qfP] at w; omega), qcV (h.2.2.1) (by simp only [qfP] at w; omega), qcV (h.2.2.2) (by simp only [qfP] at w; omega)⟩
def qgs (a : (List qad)) : Nat := a.length + (a.map fun x => qfP x).sum
theorem qoh {a : (List qad)} (h : (rngL qhP) a) (w : qgs a ≤ 1048576) : (okL qj5) a :=
  ⟨by simp only [qgs] at w; omega, fun x hx => qoF (h.2 x hx) (by have := qd3 (wt := fun x : qad => qfP x) hx; simp only [qgs] at w; omega)⟩
def qjn (x : qy) : Prop := qh1 x.Library ∧ qiG x.Design ∧ (rngL qhP) x.Wires
def qgM (x : qy) : Nat := qfG x.Library + qfu x.Design + qgs x.Wires
structure qfx (x : qy) : Prop where
  Library : qf6 x.Library
  Design : qhF x.Design
  Wires : (okL qj5) x.Wires
theorem qog {x : qy} (h : qjn x) (w : qgM x ≤ 1048576) : qfx x := ⟨qm2 (h.1) (by simp only [qgM] at w; omega), qns (h.2.1) (by simp only [qgM] at w; omega), qoh (h.2.2) (by simp only [qgM] at w; omega)⟩
theorem qqN {a : qaq} (_ : qjj a ≤ 1048576) : Ev (fun n => qg4 n a a) true := by
  unfold qg4
  exact Ev.ff qhw (Ev.ff qcd (Ev.ff qcd (Ev.ff qmQ (.done))))

theorem qqk {a : (List qaq)} (h : qhL a ≤ 1048576) : Ev (fun n => qhg n a a) true := by
  have hl : a.length ≤ 1048576 := by simp only [qhL] at h; omega
  unfold qhg
  exact Ev.ff (by simp) (Ev.bind (b := .nxt (a.length : Int)) (qhA (eqf := qg4) (fun x hx => qqN (by have := qd3 (wt := fun x : qaq => qjj x) hx; simp only [qhL] at h; omega))
    (fun n => by simp only [qdQ, qw (Nat.le_refl _), cond_false])
    (fun n j x hx => by
      have hj := (List.getElem?_eq_some_iff.1 hx).1
      simp only [qdQ, qv hj, cond_true, qaS hx, Option.bind_some, qr (show j < 9223372036854775807 by omega)])) .done)

theorem qqf {a : qD} (h : qfN a ≤ 1048576) : Ev (fun n => qgf n a a) true := by
  unfold qgf
  simp only [qfN] at h
  exact Ev.ff qhw (Ev.ff qcd (Ev.bind (qqk (a := a.Pins) (by omega)) (Ev.ff rfl (Ev.bind (qp7 (a := a.Arcs) (by omega)) (Ev.ff rfl (Ev.bind (qdM (a := a.Truth) (by omega)) (Ev.ff rfl (Ev.ff qcd (Ev.ff qcd (.done))))))))))

theorem qpp {a : (List qD)} (h : qgB a ≤ 1048576) : Ev (fun n => qgp n a a) true := by
  have hl : a.length ≤ 1048576 := by simp only [qgB] at h; omega
  unfold qgp
  exact Ev.ff (by simp) (Ev.bind (b := .nxt (a.length : Int)) (qhA (eqf := qgf) (fun x hx => qqf (by have := qd3 (wt := fun x : qD => qfN x) hx; simp only [qgB] at h; omega))
    (fun n => by simp only [qdC, qw (Nat.le_refl _), cond_false])
    (fun n j x hx => by
      have hj := (List.getElem?_eq_some_iff.1 hx).1
      simp only [qdC, qv hj, cond_true, qaS hx, Option.bind_some, qr (show j < 9223372036854775807 by omega)])) .done)

theorem qoq {a : qt} (h : qfG a ≤ 1048576) : Ev (fun n => qfz n a a) true := by
  unfold qfz
  simp only [qfG] at h
  exact Ev.bind (qpp (a := a.Cells) (by omega)) (Ev.ff rfl (.done))

theorem qnd {a : qp} (h : qcL a ≤ 1048576) : Ev (fun n => qd6 n a a) true := by
  unfold qd6
  simp only [qcL] at h
  exact Ev.ff qhw (Ev.ff qcd (Ev.bind (qdM (a := a.Nets) (by omega)) (Ev.ff rfl (.done))))

theorem qmN {a : (List qp)} (h : qdj a ≤ 1048576) : Ev (fun n => qew n a a) true := by
  have hl : a.length ≤ 1048576 := by simp only [qdj] at h; omega
  unfold qew
  exact Ev.ff (by simp) (Ev.bind (b := .nxt (a.length : Int)) (qhA (eqf := qd6) (fun x hx => qnd (by have := qd3 (wt := fun x : qp => qcL x) hx; simp only [qdj] at h; omega))
    (fun n => by simp only [qb8, qw (Nat.le_refl _), cond_false])
    (fun n j x hx => by
      have hj := (List.getElem?_eq_some_iff.1 hx).1
      simp only [qb8, qv hj, cond_true, qaS hx, Option.bind_some, qr (show j < 9223372036854775807 by omega)])) .done)

theorem qob {a : (List ByteArray)} (h : qfJ a ≤ 1048576) : Ev (fun n => qfw n a a) true := by
  have hl : a.length ≤ 1048576 := by simp only [qfJ] at h; omega
  unfold qfw
  exact Ev.ff (by simp) (Ev.bind (b := .nxt (a.length : Int)) (qhA (eqf := fun _ x y => some (!(x.toList != y.toList))) (fun x _ => Ev.now (by simp))
    (fun n => by simp only [qcH, qw (Nat.le_refl _), cond_false])
    (fun n j x hx => by
      have hj := (List.getElem?_eq_some_iff.1 hx).1
      simp only [qcH, qv hj, cond_true, qaS hx, Option.bind_some, Bool.not_not, qr (show j < 9223372036854775807 by omega)])) .done)

theorem qqp {a : qaj} (_ : qhQ a ≤ 1048576) : Ev (fun n => qgd n a a) true := by
  unfold qgd
  exact Ev.ff qhw (Ev.ff qcd (Ev.ff qcd (.done)))

theorem qpg {a : (List qaj)} (h : qgQ a ≤ 1048576) : Ev (fun n => qgD n a a) true := by
  have hl : a.length ≤ 1048576 := by simp only [qgQ] at h; omega
  unfold qgD
  exact Ev.ff (by simp) (Ev.bind (b := .nxt (a.length : Int)) (qhA (eqf := qgd) (fun x hx => qqp (by have := qd3 (wt := fun x : qaj => qhQ x) hx; simp only [qgQ] at h; omega))
    (fun n => by simp only [qdy, qw (Nat.le_refl _), cond_false])
    (fun n j x hx => by
      have hj := (List.getElem?_eq_some_iff.1 hx).1
      simp only [qdy, qv hj, cond_true, qaS hx, Option.bind_some, qr (show j < 9223372036854775807 by omega)])) .done)

theorem qoS {a : qk} (h : qfu a ≤ 1048576) : Ev (fun n => qfZ n a a) true := by
  unfold qfZ
  simp only [qfu] at h
  exact Ev.bind (qmN (a := a.Instances) (by omega)) (Ev.ff rfl (Ev.bind (qob (a := a.Nets) (by omega)) (Ev.ff rfl (Ev.bind (qpg (a := a.Ports) (by omega)) (Ev.ff rfl (.done))))))

theorem qqb {a : qad} (h : qfP a ≤ 1048576) : Ev (fun n => qga n a a) true := by
  unfold qga
  simp only [qfP] at h
  exact Ev.bind (qdM (a := a.Parent) (by omega)) (Ev.ff rfl (Ev.bind (qdM (a := a.Res) (by omega)) (Ev.ff rfl (Ev.bind (qdM (a := a.Cap) (by omega)) (Ev.ff rfl (Ev.bind (qdM (a := a.Sink) (by omega)) (Ev.ff rfl (.done))))))))

theorem qpV {a : (List qad)} (h : qgs a ≤ 1048576) : Ev (fun n => qgt n a a) true := by
  have hl : a.length ≤ 1048576 := by simp only [qgs] at h; omega
  unfold qgt
  exact Ev.ff (by simp) (Ev.bind (b := .nxt (a.length : Int)) (qhA (eqf := qga) (fun x hx => qqb (by have := qd3 (wt := fun x : qad => qfP x) hx; simp only [qgs] at h; omega))
    (fun n => by simp only [qdA, qw (Nat.le_refl _), cond_false])
    (fun n j x hx => by
      have hj := (List.getElem?_eq_some_iff.1 hx).1
      simp only [qdA, qv hj, cond_true, qaS hx, Option.bind_some, qr (show j < 9223372036854775807 by omega)])) .done)

theorem qpl {a : qy} (h : qgM a ≤ 1048576) : Ev (fun n => qgw n a a) true := by
  unfold qgw
  simp only [qgM] at h
  exact Ev.bind (qoq (a := a.Library) (by omega)) (Ev.ff rfl (Ev.bind (qoS (a := a.Design) (by omega)) (Ev.ff rfl (Ev.bind (qpV (a := a.Wires) (by omega)) (Ev.ff rfl (.done))))))

theorem qd8 {a : (List Int)} {left : Int} (h : (rngL rngI) a) (h0 : 0 ≤ left) (h1 : left ≤ 1048576) : Sz (fun n => qbk n a left) (fun r => r = left - (qcr a : Int)) :=
  Sz.less h0 h1 (by omega) (by have := h.1; omega) (fun _ => rfl)

theorem qpu {a : qF} {left : Int} (h : qgj a) (h0 : 0 ≤ left) (h1 : left ≤ 1048576) : Sz (fun n => qfA n a left) (fun r => r = left - (qeW a : Int)) := by
  unfold qfA
  obtain ⟨h_0, h_1, h_2⟩ := h
  exact Sz.step (qd8 (a := a.Slews) h_0 (by omega) (by omega)) fun r0 p0 q0 => Sz.step (qd8 (a := a.Loads) h_1 (by omega) (by omega)) fun r1 p1 q1 => Sz.step (qd8 (a := a.Values) h_2 (by omega) (by omega)) fun r2 p2 q2 => Sz.done p2 (by simp only [qeW]; omega)

theorem qmu {a : (List qF)} {left : Int} (h : (rngL qgj) a) (h0 : 0 ≤ left) (h1 : left ≤ 1048576) : Sz (fun n => qf2 n a left) (fun r => r = left - (qe7 a : Int)) :=
  Sz.list (Lf := qcw a) (wt := fun x : qF => qeW x) (el := qfA) h0 h1 h.1 (fun x hx left p q => qpu (h.2 x hx) p q)
    (fun acc n => by simp only [qcw, qw (Nat.le_refl _), cond_false])
    (fun acc n j x hx => by
      have hj := (List.getElem?_eq_some_iff.1 hx).1
      have hl := h.1
      simp only [qcw, qv hj, cond_true, qaS hx, Option.bind_some, qr (show j < 9223372036854775807 by omega)])
    (fun _ => rfl)

theorem qqT {a : qac} {left : Int} (h : qiM a) (h0 : 0 ≤ left) (h1 : left ≤ 1048576) : Sz (fun n => qgX n a left) (fun r => r = left - (qh2 a : Int)) := by
  unfold qgX
  obtain ⟨h_0, h_1, h_2, h_3, h_4, h_5⟩ := h
  exact Sz.step (qmu (a := a.Delay) h_4 (by omega) (by omega)) fun r0 p0 q0 => Sz.step (qmu (a := a.Slew) h_5 (by omega) (by omega)) fun r1 p1 q1 => Sz.done p1 (by simp only [qh2]; omega)

theorem qqj {a : (List qac)} {left : Int} (h : (rngL qiM) a) (h0 : 0 ≤ left) (h1 : left ≤ 1048576) : Sz (fun n => qh5 n a left) (fun r => r = left - (qhM a : Int)) :=
  Sz.list (Lf := qdu a) (wt := fun x : qac => qh2 x) (el := qgX) h0 h1 h.1 (fun x hx left p q => qqT (h.2 x hx) p q)
    (fun acc n => by simp only [qdu, qw (Nat.le_refl _), cond_false])
    (fun acc n j x hx => by
      have hj := (List.getElem?_eq_some_iff.1 hx).1
      have hl := h.1
      simp only [qdu, qv hj, cond_true, qaS hx, Option.bind_some, qr (show j < 9223372036854775807 by omega)])
    (fun _ => rfl)

theorem qqM {a : qaq} {left : Int} (h : qiI a) (h0 : 0 ≤ left) (h1 : left ≤ 1048576) : Sz (fun n => qgW n a left) (fun r => r = left - (qjj a : Int)) := by
  unfold qgW
  obtain ⟨h_0, h_1, h_2, h_3⟩ := h
  exact Sz.strStep h_0 (by omega) (by omega) fun p0 q0 => Sz.done p0 (by simp only [qjj]; omega)

theorem qqo {a : (List qaq)} {left : Int} (h : (rngL qiI) a) (h0 : 0 ≤ left) (h1 : left ≤ 1048576) : Sz (fun n => qh4 n a left) (fun r => r = left - (qhL a : Int)) :=
  Sz.list (Lf := qdp a) (wt := fun x : qaq => qjj x) (el := qgW) h0 h1 h.1 (fun x hx left p q => qqM (h.2 x hx) p q)
    (fun acc n => by simp only [qdp, qw (Nat.le_refl _), cond_false])
    (fun acc n j x hx => by
      have hj := (List.getElem?_eq_some_iff.1 hx).1
      have hl := h.1
      simp only [qdp, qv hj, cond_true, qaS hx, Option.bind_some, qr (show j < 9223372036854775807 by omega)])
    (fun _ => rfl)

theorem qql {a : qD} {left : Int} (h : qhH a) (h0 : 0 ≤ left) (h1 : left ≤ 1048576) : Sz (fun n => qgn n a left) (fun r => r = left - (qfN a : Int)) := by
  unfold qgn
  obtain ⟨h_0, h_1, h_2, h_3, h_4, h_5, h_6⟩ := h
  exact Sz.strStep h_0 (by omega) (by omega) fun p0 q0 => Sz.step (qqo (a := a.Pins) h_2 (by omega) (by omega)) fun r1 p1 q1 => Sz.step (qqj (a := a.Arcs) h_3 (by omega) (by omega)) fun r2 p2 q2 => Sz.step (qd8 (a := a.Truth) h_4 (by omega) (by omega)) fun r3 p3 q3 => Sz.done p3 (by simp only [qfN]; omega)

theorem qpn {a : (List qD)} {left : Int} (h : (rngL qhH) a) (h0 : 0 ≤ left) (h1 : left ≤ 1048576) : Sz (fun n => qhy n a left) (fun r => r = left - (qgB a : Int)) :=
  Sz.list (Lf := qc0 a) (wt := fun x : qD => qfN x) (el := qgn) h0 h1 h.1 (fun x hx left p q => qql (h.2 x hx) p q)
    (fun acc n => by simp only [qc0, qw (Nat.le_refl _), cond_false])
    (fun acc n j x hx => by
      have hj := (List.getElem?_eq_some_iff.1 hx).1
      have hl := h.1
      simp only [qc0, qv hj, cond_true, qaS hx, Option.bind_some, qr (show j < 9223372036854775807 by omega)])
    (fun _ => rfl)

theorem qn5 {a : qt} {left : Int} (h : qh1 a) (h0 : 0 ≤ left) (h1 : left ≤ 1048576) : Sz (fun n => qfm n a left) (fun r => r = left - (qfG a : Int)) := by
  unfold qfm
  have h_0 := h
  exact Sz.step (qpn (a := a.Cells) h_0 (by omega) (by omega)) fun r0 p0 q0 => Sz.done p0 (by simp only [qfG]; omega)

theorem qnl {a : qp} {left : Int} (h : qe0 a) (h0 : 0 ≤ left) (h1 : left ≤ 1048576) : Sz (fun n => qd9 n a left) (fun r => r = left - (qcL a : Int)) := by
  unfold qd9
  obtain ⟨h_0, h_1, h_2⟩ := h
  exact Sz.strStep h_0 (by omega) (by omega) fun p0 q0 => Sz.step (qd8 (a := a.Nets) h_2 (by omega) (by omega)) fun r1 p1 q1 => Sz.done p1 (by simp only [qcL]; omega)

theorem qmJ {a : (List qp)} {left : Int} (h : (rngL qe0) a) (h0 : 0 ≤ left) (h1 : left ≤ 1048576) : Sz (fun n => qfK n a left) (fun r => r = left - (qdj a : Int)) :=
  Sz.list (Lf := qbG a) (wt := fun x : qp => qcL x) (el := qd9) h0 h1 h.1 (fun x hx left p q => qnl (h.2 x hx) p q)
    (fun acc n => by simp only [qbG, qw (Nat.le_refl _), cond_false])
    (fun acc n j x hx => by
      have hj := (List.getElem?_eq_some_iff.1 hx).1
      have hl := h.1
      simp only [qbG, qv hj, cond_true, qaS hx, Option.bind_some, qr (show j < 9223372036854775807 by omega)])
    (fun _ => rfl)

theorem qnT {a : (List ByteArray)} {left : Int} (h : (rngL rngS) a) (h0 : 0 ≤ left) (h1 : left ≤ 1048576) : Sz (fun n => qgA n a left) (fun r => r = left - (qfJ a : Int)) :=
  Sz.list (Lf := qcb a) (wt := fun x : ByteArray => x.size) (el := fun _ (x : ByteArray) acc => some (W64 (acc - (x.size : Int)))) h0 h1 h.1 (fun x hx left p q => Sz.str (h.2 x hx) p q)
    (fun acc n => by simp only [qcb, qw (Nat.le_refl _), cond_false])
    (fun acc n j x hx => by
      have hj := (List.getElem?_eq_some_iff.1 hx).1
      have hl := h.1
      simp only [qcb, qv hj, cond_true, qaS hx, Option.bind_some, qr (show j < 9223372036854775807 by omega)])
    (fun _ => rfl)

theorem qqi {a : qaj} {left : Int} (h : qhR a) (h0 : 0 ≤ left) (h1 : left ≤ 1048576) : Sz (fun n => qgc n a left) (fun r => r = left - (qhQ a : Int)) := by
  unfold qgc
  obtain ⟨h_0, h_1, h_2⟩ := h
  exact Sz.strStep h_0 (by omega) (by omega) fun p0 q0 => Sz.done p0 (by simp only [qhQ]; omega)

theorem qpG {a : (List qaj)} {left : Int} (h : (rngL qhR) a) (h0 : 0 ≤ left) (h1 : left ≤ 1048576) : Sz (fun n => qht n a left) (fun r => r = left - (qgQ a : Int)) :=
  Sz.list (Lf := qcT a) (wt := fun x : qaj => qhQ x) (el := qgc) h0 h1 h.1 (fun x hx left p q => qqi (h.2 x hx) p q)
    (fun acc n => by simp only [qcT, qw (Nat.le_refl _), cond_false])
    (fun acc n j x hx => by
      have hj := (List.getElem?_eq_some_iff.1 hx).1
      have hl := h.1
      simp only [qcT, qv hj, cond_true, qaS hx, Option.bind_some, qr (show j < 9223372036854775807 by omega)])
    (fun _ => rfl)

theorem qoI {a : qk} {left : Int} (h : qiG a) (h0 : 0 ≤ left) (h1 : left ≤ 1048576) : Sz (fun n => qfR n a left) (fun r => r = left - (qfu a : Int)) := by
  unfold qfR
  obtain ⟨h_0, h_1, h_2⟩ := h
  exact Sz.step (qmJ (a := a.Instances) h_0 (by omega) (by omega)) fun r0 p0 q0 => Sz.step (qnT (a := a.Nets) h_1 (by omega) (by omega)) fun r1 p1 q1 => Sz.step (qpG (a := a.Ports) h_2 (by omega) (by omega)) fun r2 p2 q2 => Sz.done p2 (by simp only [qfu]; omega)

theorem qqv {a : qad} {left : Int} (h : qhP a) (h0 : 0 ≤ left) (h1 : left ≤ 1048576) : Sz (fun n => qgl n a left) (fun r => r = left - (qfP a : Int)) := by
  unfold qgl
  obtain ⟨h_0, h_1, h_2, h_3⟩ := h
  exact Sz.step (qd8 (a := a.Parent) h_0 (by omega) (by omega)) fun r0 p0 q0 => Sz.step (qd8 (a := a.Res) h_1 (by omega) (by omega)) fun r1 p1 q1 => Sz.step (qd8 (a := a.Cap) h_2 (by omega) (by omega)) fun r2 p2 q2 => Sz.step (qd8 (a := a.Sink) h_3 (by omega) (by omega)) fun r3 p3 q3 => Sz.done p3 (by simp only [qfP]; omega)

theorem qpj {a : (List qad)} {left : Int} (h : (rngL qhP) a) (h0 : 0 ≤ left) (h1 : left ≤ 1048576) : Sz (fun n => qhz n a left) (fun r => r = left - (qgs a : Int)) :=
  Sz.list (Lf := qcY a) (wt := fun x : qad => qfP x) (el := qgl) h0 h1 h.1 (fun x hx left p q => qqv (h.2 x hx) p q)
    (fun acc n => by simp only [qcY, qw (Nat.le_refl _), cond_false])
    (fun acc n j x hx => by
      have hj := (List.getElem?_eq_some_iff.1 hx).1
      have hl := h.1
      simp only [qcY, qv hj, cond_true, qaS hx, Option.bind_some, qr (show j < 9223372036854775807 by omega)])
    (fun _ => rfl)

theorem qpR {a : qy} {left : Int} (h : qjn a) (h0 : 0 ≤ left) (h1 : left ≤ 1048576) : Sz (fun n => qgz n a left) (fun r => r = left - (qgM a : Int)) := by
  unfold qgz
  obtain ⟨h_0, h_1, h_2⟩ := h
  exact Sz.step (qn5 (a := a.Library) h_0 (by omega) (by omega)) fun r0 p0 q0 => Sz.step (qoI (a := a.Design) h_1 (by omega) (by omega)) fun r1 p1 q1 => Sz.step (qpj (a := a.Wires) h_2 (by omega) (by omega)) fun r2 p2 q2 => Sz.done p2 (by simp only [qgM]; omega)

theorem qc5 {a : (List Int)} (h : qcr a ≤ 1048576) : Ev (fun n => qaD n a) a := by
  have hl : a.length ≤ 1048576 := by simp only [qcr] at h; omega
  unfold qaD
  exact Ev.bindN (qg9 (by omega)) (Ev.bind (b := (a, (a.length : Int))) (qhv (cp := fun _ x => some x) (fun _ _ => .done)
    (fun acc n => by simp only [qc8, qw (Nat.le_refl _), cond_false])
    (fun acc n j x y hx hy => by
      have hj := (List.getElem?_eq_some_iff.1 hx).1
      simp only [qc8, qv hj, cond_true, qaS hx, qaS hy, Option.bind_some, qr (show j < 9223372036854775807 by omega)])) .done)

theorem qpi {a : qF} (h : qeW a ≤ 1048576) : Ev (fun n => qfI n a) a := by
  unfold qfI
  simp only [qeW] at h
  exact Ev.bind (qc5 (a := a.Slews) (by omega)) (Ev.bind (qc5 (a := a.Loads) (by omega)) (Ev.bind (qc5 (a := a.Values) (by omega)) (.done)))

theorem qms {a : (List qF)} (h : qe7 a ≤ 1048576) : Ev (fun n => qff n a) a := by
  have hl : a.length ≤ 1048576 := by simp only [qe7] at h; omega
  unfold qff
  exact Ev.bindN (qg9 (by omega)) (Ev.bind (b := (a, (a.length : Int))) (qhv (cp := qfI) (fun x hx => qpi (by have := qd3 (wt := fun x : qF => qeW x) hx; simp only [qe7] at h; omega))
    (fun acc n => by simp only [qc9, qw (Nat.le_refl _), cond_false])
    (fun acc n j x y hx hy => by
      have hj := (List.getElem?_eq_some_iff.1 hx).1
      simp only [qc9, qv hj, cond_true, qaS hx, qaS hy, Option.bind_some, qr (show j < 9223372036854775807 by omega)])) .done)

theorem qqQ {a : qac} (h : qh2 a ≤ 1048576) : Ev (fun n => qg2 n a) a := by
  unfold qg2
  simp only [qh2] at h
  exact Ev.bind (qms (a := a.Delay) (by omega)) (Ev.bind (qms (a := a.Slew) (by omega)) (.done))

theorem qqg {a : (List qac)} (h : qhM a ≤ 1048576) : Ev (fun n => qhh n a) a := by
  have hl : a.length ≤ 1048576 := by simp only [qhM] at h; omega
  unfold qhh
  exact Ev.bindN (qg9 (by omega)) (Ev.bind (b := (a, (a.length : Int))) (qhv (cp := qg2) (fun x hx => qqQ (by have := qd3 (wt := fun x : qac => qh2 x) hx; simp only [qhM] at h; omega))
    (fun acc n => by simp only [qdV, qw (Nat.le_refl _), cond_false])
    (fun acc n j x y hx hy => by
      have hj := (List.getElem?_eq_some_iff.1 hx).1
      simp only [qdV, qv hj, cond_true, qaS hx, qaS hy, Option.bind_some, qr (show j < 9223372036854775807 by omega)])) .done)

theorem qqS {a : qaq} (_ : qjj a ≤ 1048576) : Ev (fun n => qg0 n a) a := by
  unfold qg0
  exact .done

theorem qqy {a : (List qaq)} (h : qhL a ≤ 1048576) : Ev (fun n => qhe n a) a := by
  have hl : a.length ≤ 1048576 := by simp only [qhL] at h; omega
  unfold qhe
  exact Ev.bindN (qg9 (by omega)) (Ev.bind (b := (a, (a.length : Int))) (qhv (cp := qg0) (fun x hx => qqS (by have := qd3 (wt := fun x : qaq => qjj x) hx; simp only [qhL] at h; omega))
    (fun acc n => by simp only [qdR, qw (Nat.le_refl _), cond_false])
    (fun acc n j x y hx hy => by
      have hj := (List.getElem?_eq_some_iff.1 hx).1
      simp only [qdR, qv hj, cond_true, qaS hx, qaS hy, Option.bind_some, qr (show j < 9223372036854775807 by omega)])) .done)

theorem qqz {a : qD} (h : qfN a ≤ 1048576) : Ev (fun n => qge n a) a := by
  unfold qge
  simp only [qfN] at h
  exact Ev.bind (qqy (a := a.Pins) (by omega)) (Ev.bind (qqg (a := a.Arcs) (by omega)) (Ev.bind (qc5 (a := a.Truth) (by omega)) (.done)))

theorem qpD {a : (List qD)} (h : qgB a ≤ 1048576) : Ev (fun n => qgN n a) a := by
  have hl : a.length ≤ 1048576 := by simp only [qgB] at h; omega
  unfold qgN
  exact Ev.bindN (qg9 (by omega)) (Ev.bind (b := (a, (a.length : Int))) (qhv (cp := qge) (fun x hx => qqz (by have := qd3 (wt := fun x : qD => qfN x) hx; simp only [qgB] at h; omega))
    (fun acc n => by simp only [qdz, qw (Nat.le_refl _), cond_false])
    (fun acc n j x y hx hy => by
      have hj := (List.getElem?_eq_some_iff.1 hx).1
      simp only [qdz, qv hj, cond_true, qaS hx, qaS hy, Option.bind_some, qr (show j < 9223372036854775807 by omega)])) .done)

theorem qoc {a : qt} (h : qfG a ≤ 1048576) : Ev (fun n => qfr n a) a := by
  unfold qfr
  simp only [qfG] at h
  exact Ev.bind (qpD (a := a.Cells) (by omega)) (.done)

theorem qnu {a : qp} (h : qcL a ≤ 1048576) : Ev (fun n => qd7 n a) a := by
  unfold qd7
  simp only [qcL] at h
  exact Ev.bind (qc5 (a := a.Nets) (by omega)) (.done)

theorem qm7 {a : (List qp)} (h : qdj a ≤ 1048576) : Ev (fun n => qeF n a) a := by
  have hl : a.length ≤ 1048576 := by simp only [qdj] at h; omega
  unfold qeF
  exact Ev.bindN (qg9 (by omega)) (Ev.bind (b := (a, (a.length : Int))) (qhv (cp := qd7) (fun x hx => qnu (by have := qd3 (wt := fun x : qp => qcL x) hx; simp only [qdj] at h; omega))
    (fun acc n => by simp only [qb5, qw (Nat.le_refl _), cond_false])
    (fun acc n j x y hx hy => by
      have hj := (List.getElem?_eq_some_iff.1 hx).1
      simp only [qb5, qv hj, cond_true, qaS hx, qaS hy, Option.bind_some, qr (show j < 9223372036854775807 by omega)])) .done)

theorem qnM {a : (List ByteArray)} (h : qfJ a ≤ 1048576) : Ev (fun n => qfn n a) a := by
  have hl : a.length ≤ 1048576 := by simp only [qfJ] at h; omega
  unfold qfn
  exact Ev.bindN (qg9 (by omega)) (Ev.bind (b := (a, (a.length : Int))) (qhv (cp := fun _ x => some x) (fun _ _ => .done)
    (fun acc n => by simp only [qcQ, qw (Nat.le_refl _), cond_false])
    (fun acc n j x y hx hy => by
      have hj := (List.getElem?_eq_some_iff.1 hx).1
      simp only [qcQ, qv hj, cond_true, qaS hx, qaS hy, Option.bind_some, qr (show j < 9223372036854775807 by omega)])) .done)

theorem qqC {a : qaj} (_ : qhQ a ≤ 1048576) : Ev (fun n => qf9 n a) a := by
  unfold qf9
  exact .done

theorem qp2 {a : (List qaj)} (h : qgQ a ≤ 1048576) : Ev (fun n => qgJ n a) a := by
  have hl : a.length ≤ 1048576 := by simp only [qgQ] at h; omega
  unfold qgJ
  exact Ev.bindN (qg9 (by omega)) (Ev.bind (b := (a, (a.length : Int))) (qhv (cp := qf9) (fun x hx => qqC (by have := qd3 (wt := fun x : qaj => qhQ x) hx; simp only [qgQ] at h; omega))
    (fun acc n => by simp only [qdw, qw (Nat.le_refl _), cond_false])
    (fun acc n j x y hx hy => by
      have hj := (List.getElem?_eq_some_iff.1 hx).1
      simp only [qdw, qv hj, cond_true, qaS hx, qaS hy, Option.bind_some, qr (show j < 9223372036854775807 by omega)])) .done)

theorem qoT {a : qk} (h : qfu a ≤ 1048576) : Ev (fun n => qfV n a) a := by
  unfold qfV
  simp only [qfu] at h
  exact Ev.bind (qm7 (a := a.Instances) (by omega)) (Ev.bind (qnM (a := a.Nets) (by omega)) (Ev.bind (qp2 (a := a.Ports) (by omega)) (.done)))

theorem qqn {a : qad} (h : qfP a ≤ 1048576) : Ev (fun n => qgb n a) a := by
  unfold qgb
  simp only [qfP] at h
  exact Ev.bind (qc5 (a := a.Parent) (by omega)) (Ev.bind (qc5 (a := a.Res) (by omega)) (Ev.bind (qc5 (a := a.Cap) (by omega)) (Ev.bind (qc5 (a := a.Sink) (by omega)) (.done))))

theorem qpX {a : (List qad)} (h : qgs a ≤ 1048576) : Ev (fun n => qgP n a) a := by
  have hl : a.length ≤ 1048576 := by simp only [qgs] at h; omega
  unfold qgP
  exact Ev.bindN (qg9 (by omega)) (Ev.bind (b := (a, (a.length : Int))) (qhv (cp := qgb) (fun x hx => qqn (by have := qd3 (wt := fun x : qad => qfP x) hx; simp only [qgs] at h; omega))
    (fun acc n => by simp only [qdx, qw (Nat.le_refl _), cond_false])
    (fun acc n j x y hx hy => by
      have hj := (List.getElem?_eq_some_iff.1 hx).1
      simp only [qdx, qv hj, cond_true, qaS hx, qaS hy, Option.bind_some, qr (show j < 9223372036854775807 by omega)])) .done)

theorem qlp {a : qy} (h : qgM a ≤ 1048576) : Ev (fun n => qeV n a) a := by
  unfold qeV
  simp only [qgM] at h
  exact Ev.bind (qoc (a := a.Library) (by omega)) (Ev.bind (qoT (a := a.Design) (by omega)) (Ev.bind (qpX (a := a.Wires) (by omega)) (.done)))

end Go.Fw


namespace Go.Fw
open Go
set_option maxRecDepth 100000


theorem qdO {n : Nat} {x lo hi : Int} : qam n x lo hi = some (inI x lo hi) := by
  simp only [qam, qjh, qkf]; rfl
theorem qdJ {n : Nat} {x lo hi : Int} : qaM n x lo hi = some (inI x lo hi) := by
  simp only [qaM, qjh, qkf]; rfl

/-! ### Names -/

/-- The byte at a place, as a number. -/
def bt (s : ByteArray) (j : Nat) : Nat := (s.data.toList.getD j 0).toNat
theorem qps {s : ByteArray} {j : Nat} (h : j < s.size) : atS s (j : Int) = some (bt s j : Int) := by
  have h' : j < s.data.size := h
  have hl : j < s.data.toList.length := by simpa using h'
  unfold atS
  rw [if_pos (by omega), Int.toNat_natCast]
  have : s[j]? = some (s.data.toList.getD j 0) := by
    rw [getElem?_pos s j h, List.getD_eq_getElem?_getD, List.getElem?_eq_getElem hl]
    rfl
  rw [this]
  rfl

def letB (b : Nat) : Bool := decide (97 ≤ b) && decide (b ≤ 122)
def digB (b : Nat) : Bool := decide (48 ≤ b) && decide (b ≤ 57)
def chB (s : ByteArray) (j : Nat) : Bool := letB (bt s j) || digB (bt s j) && decide (0 < j)
def nameB (s : ByteArray) : Bool := (decide (1 ≤ s.size) && decide (s.size ≤ 8)) && allN (chB s) s.size

theorem qjV {s : ByteArray} (h : okS s) : Ev (fun n => qeT n s) (nameB s) := by
  unfold okS at h
  have hL : Ev (fun n => qcl s n 0) (bif allN (chB s) s.size then .nxt (s.size : Int) else .ret false) := by
    refine qeE ?_ (fun j hj X hX => ?_)
    · exact Ev.succ (by simp only [qcl, qw (Nat.le_refl _), cond_false]; exact .done)
    · refine Ev.succ ?_
      simp only [qcl, qv hj, cond_true, qps hj, Option.bind_some, qjh, qkf, qr (show j < 9223372036854775807 by omega)]
      have e1 : (decide ((bt s j : Int) ≥ 97) && decide ((bt s j : Int) ≤ 122)) = letB (bt s j) := by unfold letB; rw [Bool.eq_iff_iff]; simp; omega
      have e2 : (decide ((bt s j : Int) ≥ 48) && decide ((bt s j : Int) ≤ 57)) = digB (bt s j) := by unfold digB; rw [Bool.eq_iff_iff]; simp; omega
      have e3 : decide ((j : Int) > 0) = decide (0 < j) := by rw [Bool.eq_iff_iff]; simp
      rw [e1, e2, e3]
      unfold chB
      cases letB (bt s j) <;> cases digB (bt s j) <;> cases decide (0 < j) <;> first | exact hX | exact .done
  unfold qeT
  refine Ev.cast (r := bif allN (chB s) s.size then (decide (1 ≤ s.size) && decide (s.size ≤ 8)) else false) (Ev.bindB hL (fun _ => ?_) (fun _ => .done)) ?_
  · simp only [qjh, qkf]
    exact Ev.now (by congr 1; rw [Bool.eq_iff_iff]; simp; omega)
  · unfold nameB
    cases allN (chB s) s.size <;> simp

def cutset : List UInt8 := [97, 98, 99, 100, 101, 102, 103, 104, 105, 106, 107, 108, 109, 110, 111, 112, 113, 114, 115, 116, 117, 118, 119, 120, 121, 122, 48, 49, 50, 51, 52, 53, 54, 55, 56, 57]
theorem qlt (b : UInt8) : cutset.contains b = (letB b.toNat || digB b.toNat) := by
  have h0 : (List.range 256).all (fun m => cutset.contains (UInt8.ofNat m) == (letB (UInt8.ofNat m).toNat || digB (UInt8.ofNat m).toNat)) = true := by kernel_rfl
  have h := List.all_eq_true.1 h0 b.toNat (List.mem_range.2 b.toNat_lt)
  rw [beq_iff_eq] at h
  simpa using h
def letters : List UInt8 := [97, 98, 99, 100, 101, 102, 103, 104, 105, 106, 107, 108, 109, 110, 111, 112, 113, 114, 115, 116, 117, 118, 119, 120, 121, 122]
theorem qor (m : Nat) (hm : m < 256) : decide ((Lib.indexByte letters m.toUInt8) ≥ 0) = letB m := by
  have h0 : (List.range 256).all (fun m => decide ((Lib.indexByte letters m.toUInt8) ≥ 0) == letB m) = true := by kernel_rfl
  have h := List.all_eq_true.1 h0 m (List.mem_range.2 hm)
  rwa [beq_iff_eq] at h

theorem qma {α : Type} {p : α → Bool} {l : List α} : l.dropWhile p = [] ↔ ∀ x, x ∈ l → p x = true := by
  induction l with
  | nil => simp
  | cons y l ih =>
    rw [List.dropWhile_cons]
    by_cases h : p y = true
    · rw [if_pos h, ih]; simp [h]
    · rw [if_neg h]; simp [h]

theorem ql2 {α : Type} {p : α → Bool} {l : List α} (h : ∀ x, x ∈ l.dropWhile p → p x = true) : ∀ x, x ∈ l → p x = true := by
  induction l with
  | nil => simp
  | cons y l ih =>
    rw [List.dropWhile_cons] at h
    by_cases hy : p y = true
    · rw [if_pos hy] at h
      intro x hx
      rcases List.mem_cons.1 hx with rfl | hx
      · exact hy
      · exact ih h x hx
    · rw [if_neg hy] at h
      exact h

theorem qpJ {l cs : List UInt8} : Lib.trimS l cs = [] ↔ ∀ x, x ∈ l → cs.contains x = true := by
  unfold Lib.trimS Lib.trimRightS Lib.trimLeftS
  rw [qma]
  constructor
  · intro h x hx
    exact ql2 (p := (cs.contains ·)) (l := l.reverse) (fun y hy => h y (List.mem_reverse.2 hy)) x (List.mem_reverse.2 hx)
  · intro h x hx
    exact h x (List.mem_reverse.1 ((List.dropWhile_suffix _).subset (List.mem_reverse.1 hx)))

theorem qfS {a b : ByteArray} : (a.toList == b.toList) = decide (a = b) := by
  rw [Bool.eq_iff_iff, beq_iff_eq, decide_eq_true_iff]
  constructor
  · intro h
    exact ByteArray.ext (by have := congrArg List.toArray h; simpa [ByteArray.toList_eq] using this)
  · rintro rfl; rfl
end Go.Fw


namespace Go.Fw
open Go
set_option maxRecDepth 100000

theorem qqF {s : ByteArray} {j : Nat} (h : j < s.data.toList.length) : bt s j = (s.data.toList[j]).toNat := by
  unfold bt; rw [List.getD_eq_getElem?_getD, List.getElem?_eq_getElem h]; rfl
theorem qqY {s : ByteArray} {j : Nat} : bt s j < 256 := UInt8.toNat_lt _

theorem qmp {n : Nat} {s : ByteArray} (h : okS s) : qgh n s = some (nameB s) := by
  unfold okS at h
  have hl : s.data.toList.length = s.size := by simp
  simp only [qgh, qdJ, Option.bind_some]
  cases hI : inI (s.size : Int) 1 8 with
  | false =>
    have hs : (decide (1 ≤ s.size) && decide (s.size ≤ 8)) = false := by rw [qo4] at hI; rw [Bool.and_eq_false_iff, decide_eq_false_iff_not, decide_eq_false_iff_not]; omega
    simp [nameB, hs]
  | true =>
    have hs : 1 ≤ s.size ∧ s.size ≤ 8 := by rw [qcP] at hI; omega
    have hT : qgo n s (⟨#[97, 98, 99, 100, 101, 102, 103, 104, 105, 106, 107, 108, 109, 110, 111, 112, 113, 114, 115, 116, 117, 118, 119, 120, 121, 122, 48, 49, 50, 51, 52, 53, 54, 55, 56, 57]⟩ : ByteArray) = some ⟨(Lib.trimS s.data.toList cutset).toArray⟩ := by
      unfold qgo
      rw [if_pos ⟨by omega, by decide, by decide⟩]
      rfl
    rw [hT]
    simp only [cond_true, Option.bind_some]
    have hE : (((⟨(Lib.trimS s.data.toList cutset).toArray⟩ : ByteArray).toList == (⟨#[]⟩ : ByteArray).toList)) = allN (fun j => letB (bt s j) || digB (bt s j)) s.size := by
      rw [qfS, Bool.eq_iff_iff, decide_eq_true_iff, qaQ]
      have : ((⟨(Lib.trimS s.data.toList cutset).toArray⟩ : ByteArray) = ⟨#[]⟩) ↔ Lib.trimS s.data.toList cutset = [] := by
        constructor
        · intro he
          have := congrArg (fun x : ByteArray => x.data.toList) he
          simpa using this
        · intro he; rw [he]
      rw [this, qpJ]
      constructor
      · intro hx j hj
        have hj' : j < s.data.toList.length := by omega
        have := hx _ (List.getElem_mem hj')
        rw [qlt, ← qqF hj'] at this
        exact this
      · intro hx x hm
        obtain ⟨j, hj, rfl⟩ := List.getElem_of_mem hm
        have := hx j (by omega)
        rw [qlt, ← qqF hj]
        exact this
    rw [hE]
    have h0 : atS s 0 = some (bt s 0 : Int) := qps (j := 0) (by omega)
    have hI2 : decide (Lib.indexByte letters (bt s 0 : Int).toNat.toUInt8 ≥ 0) = letB (bt s 0) := by
      rw [Int.toNat_natCast]; exact qor _ qqY
    have hF : ∀ b : Bool, (bif b then (atS s 0).bind fun y1 => (qfi n (⟨#[97, 98, 99, 100, 101, 102, 103, 104, 105, 106, 107, 108, 109, 110, 111, 112, 113, 114, 115, 116, 117, 118, 119, 120, 121, 122]⟩ : ByteArray) (⟨y1⟩ : IntK .u8)).bind fun r3 => some (decide (r3 ≥ 0)) else some false) = some (b && letB (bt s 0)) := by
      intro b
      cases b with
      | false => rfl
      | true =>
        rw [h0]
        simp only [cond_true, Option.bind_some, qfi, Bool.true_and]
        exact congrArg some hI2
    rw [hF]
    congr 1
    have hs' : (decide (1 ≤ s.size) && decide (s.size ≤ 8)) = true := by simp [hs]
    unfold nameB
    rw [hs', Bool.true_and, Bool.eq_iff_iff, Bool.and_eq_true, qaQ, qaQ]
    simp only [chB, Bool.or_eq_true, Bool.and_eq_true, decide_eq_true_eq]
    constructor
    · rintro ⟨h1, h2⟩ j hj
      rcases Nat.eq_zero_or_pos j with rfl | hp
      · exact .inl h2
      · exact (h1 j hj).imp id (fun h => ⟨h, hp⟩)
    · intro h1
      refine ⟨fun j hj => (h1 j hj).imp id (fun h => h.1), ?_⟩
      rcases h1 0 (by omega) with h2 | h2
      · exact h2
      · omega

/-! ### Lists of names -/

def strAt (xs : List ByteArray) (j : Nat) : ByteArray := xs.getD j ByteArray.empty
theorem qj1 {xs : List ByteArray} {j : Nat} (h : j < xs.length) : strAt xs j = xs[j] := by simp [strAt, h]
theorem qk8 {xs : List ByteArray} {j : Nat} (h : j < xs.length) : idx xs (j : Int) = some (strAt xs j) := by rw [qg6 h, qj1 h]
def neB (xs : List ByteArray) (j i : Nat) : Bool := !decide (strAt xs i = strAt xs j)
def namesB (xs : List ByteArray) : Bool := allN (fun j => nameB (strAt xs j) && allN (neB xs j) j) xs.length

theorem qi5 {xs : List ByteArray} (h : okL okS xs) : Ev (fun n => qep n xs) (namesB xs) := by
  have hl := h.len
  have hL2 : ∀ j, j < xs.length → Ev (fun n => qcq xs (j : Int) n 0) (bif allN (neB xs j) j then .nxt (j : Int) else .ret false) := by
    intro j hj
    refine qeE ?_ (fun i hi X hX => Ev.succ ?_)
    · exact Ev.succ (by simp only [qcq, qw (Nat.le_refl _), cond_false]; exact .done)
    · simp only [qcq, qv hi, cond_true, qk8 (show i < xs.length by omega), qk8 hj, Option.bind_some, qfS, qr (show i < 9223372036854775807 by omega)]
      unfold neB
      cases decide (strAt xs i = strAt xs j)
      · exact hX
      · exact .done
  have hL1 : Ev (fun n => qcu xs n 0) (bif namesB xs then .nxt (xs.length : Int) else .ret false) := by
    refine qeE ?_ (fun j hj X hX => Ev.succ ?_)
    · exact Ev.succ (by simp only [qcu, qw (Nat.le_refl _), cond_false]; exact .done)
    · simp only [qcu, qv hj, cond_true, qk8 hj, Option.bind_some, qr (show j < 9223372036854775807 by omega)]
      refine Ev.bind (qjV (by rw [qj1 hj]; exact h.at hj)) ?_
      cases nameB (strAt xs j)
      · exact .done
      · refine Ev.ff rfl (Ev.bind (hL2 j hj) ?_)
        cases allN (neB xs j) j
        · exact .done
        · exact hX
  unfold qep
  refine Ev.bind hL1 ?_
  cases namesB xs <;> exact .done

theorem qnw {xs : List ByteArray} {v : ByteArray} (hl : xs.length ≤ 1048576) : Ev (fun n => qdF n xs v) (ixL (fun x => decide (v = x)) xs) :=
  qeI (fin := (xs.length : Int)) (Lf := qbg xs v) (pf := fun _ x => some (decide (v = x))) (fun _ _ => .done)
    (fun n => by simp only [qbg, qw (Nat.le_refl _), cond_false])
    (fun n j x hx => by
      have hj := (List.getElem?_eq_some_iff.1 hx).1
      simp only [qbg, qv hj, cond_true, qaS hx, Option.bind_some, qfS, qr (show j < 9223372036854775807 by omega)])
    (fun n => by unfold qdF; congr 1; funext o; cases o <;> rfl)

theorem qlM {xs : List ByteArray} {v : ByteArray} (hl : xs.length ≤ 1048576) : Ev (fun n => qcO n xs v) (xs.any fun x => decide (v = x)) := by
  unfold qcO
  exact Ev.bind (qnw hl) (Ev.now (by rw [qid]))

theorem qhf {xs : List ByteArray} (h : okL okS xs) : Ev (fun n => qdd n xs) (namesB xs) := by
  have hl := h.len
  have hL1 : Ev (fun n => qct xs n 0) (bif namesB xs then .nxt (xs.length : Int) else .ret false) := by
    refine qeE ?_ (fun j hj X hX => Ev.succ ?_)
    · exact Ev.succ (by simp only [qct, qw (Nat.le_refl _), cond_false]; exact .done)
    · have hs : subS xs 0 (j : Int) = some (xs.take j) := by
        unfold subS
        rw [if_pos ⟨by omega, by omega, by omega⟩]
        simp
      simp only [qct, qv hj, cond_true, qk8 hj, Option.bind_some, hs, qmp (show okS (strAt xs j) by rw [qj1 hj]; exact h.at hj), qr (show j < 9223372036854775807 by omega)]
      cases nameB (strAt xs j)
      · exact .done
      · refine Ev.ff rfl (Ev.bind (qlM (by simp; omega)) ?_)
        have : ((xs.take j).any fun x => decide (strAt xs j = x)) = !allN (neB xs j) j := by
          rw [qna (d := ByteArray.empty)]
          congr 1
          rw [List.length_take, Nat.min_eq_left (by omega)]
          refine qf5 (fun i hi => ?_)
          unfold neB strAt
          congr 1
          have : (xs.take j).getD i ByteArray.empty = xs.getD i ByteArray.empty := by simp [List.getD_eq_getElem?_getD, hi]
          rw [this]
          exact decide_eq_decide.2 eq_comm
        rw [this]
        cases allN (neB xs j) j
        · exact .done
        · exact hX
  unfold qdd
  refine Ev.bind hL1 ?_
  cases namesB xs <;> exact .done
end Go.Fw


namespace Go.Fw
open Go
set_option maxRecDepth 100000

theorem ql3 {n : Nat} {x lo hi : Int} : qey n x lo hi = some (!inI x lo hi) := by simp only [qey, qdJ, Option.bind_some]

theorem qed {xs : List Int} {lo hi : Int} (hl : xs.length ≤ 1048576) : Ev (fun n => qbs n xs lo hi) (xs.all fun x => inI x lo hi) := by
  have h1 : Ev (fun n => qaC n xs lo hi) (ixL (fun x => !inI x lo hi) xs) :=
    qeI (fin := (xs.length : Int)) (Lf := qP xs lo hi) (pf := fun _ x => some (!inI x lo hi)) (fun _ _ => .done)
      (fun n => by simp only [qP, qw (Nat.le_refl _), cond_false])
      (fun n j x hx => by
        have hj := (List.getElem?_eq_some_iff.1 hx).1
        simp only [qP, qv hj, cond_true, qaS hx, Option.bind_some, ql3, qr (show j < 9223372036854775807 by omega)])
      (fun n => by unfold qaC; congr 1; funext o; cases o <;> rfl)
  unfold qbs qaR
  refine Ev.bind (Ev.bind h1 (Ev.now rfl)) (Ev.now ?_)
  rw [qid, qld]

def stepB (xs : List Int) (j : Nat) : Bool := decide (j = 0) || decide (at0 xs (j - 1) < at0 xs j)
def incB (xs : List Int) : Bool := allN (stepB xs) xs.length

theorem qhr {xs : List Int} (hl : xs.length ≤ 1048576) : Ev (fun n => qcI n xs) (incB xs) := by
  have hL : Ev (fun n => qaU xs n 1) (bif incB xs then .nxt (max 1 xs.length : Int) else .ret false) := by
    by_cases h0 : xs.length = 0
    · have hb : incB xs = true := by unfold incB; rw [h0]; rfl
      rw [hb]
      refine Ev.succ ?_
      have : decide ((1 : Int) < (xs.length : Int)) = false := by rw [h0]; decide
      simp only [qaU, this, cond_false]
      exact Ev.now (by rw [h0]; rfl)
    · have := qm5 (Lf := qaU xs) (len := xs.length) (i0 := 1) (f := stepB xs) (bad := false) (fin := .nxt (max 1 xs.length : Int)) (by omega)
        (Ev.succ (by
          simp only [qaU, qw (Nat.le_refl _), cond_false]
          exact Ev.now (by congr 2; omega)))
        (fun j h1 hj X hX => Ev.succ (by
          simp only [qaU, qv hj, cond_true, qr (show j < 9223372036854775807 by omega), show (j : Int) - 1 = ((j - 1 : Nat) : Int) by omega, qez (show -9223372036854775808 ≤ ((j - 1 : Nat) : Int) by omega) (by omega), qbm (show j - 1 < xs.length by omega), qbm hj, Option.bind_some]
          unfold stepB
          by_cases hc : at0 xs (j - 1) < at0 xs j
          · have e1 : decide (at0 xs (j - 1) ≥ at0 xs j) = false := by simp; omega
            rw [e1]; simp only [hc, decide_true, Bool.or_true, cond_true, cond_false]; exact hX
          · have e1 : decide (at0 xs (j - 1) ≥ at0 xs j) = true := by simp; omega
            have e2 : decide (j = 0) = false := by simp; omega
            rw [e1, e2]; simp only [hc, decide_false, Bool.or_self, cond_true, cond_false]; exact .done))
      have e : allN (fun j => stepB xs (1 + j)) (xs.length - 1) = incB xs := by
        unfold incB
        rw [Bool.eq_iff_iff, qaQ, qaQ]
        constructor
        · intro h j hj
          cases j with
          | zero => rfl
          | succ j => have := h j (by omega); rwa [Nat.add_comm] at this
        · intro h j hj
          exact h (1 + j) (by omega)
      rw [e] at this
      exact this
  unfold qcI
  refine Ev.bind hL ?_
  cases incB xs <;> exact .done

def lenB {α : Type} (xs : List α) (lo hi : Nat) : Bool := decide (lo ≤ xs.length) && decide (xs.length ≤ hi)
theorem qk9 {α : Type} {xs : List α} {lo hi : Nat} : inI (xs.length : Int) (lo : Int) (hi : Int) = lenB xs lo hi := by
  unfold inI lenB; rw [Bool.eq_iff_iff]; simp
def axisB (xs : List Int) : Bool := lenB xs 1 4 && ((xs.all fun x => inI x 0 100000) && incB xs)

theorem qmi {xs : List Int} (hl : xs.length ≤ 1048576) : Ev (fun n => qgm n xs) (axisB xs) := by
  simp only [qgm, qah, Option.bind_some, qdJ, show inI (xs.length : Int) 1 4 = lenB xs 1 4 from qk9 (lo := 1) (hi := 4)]
  unfold axisB
  cases lenB xs 1 4
  · exact .done
  · refine Ev.tt rfl (Ev.bind (qed hl) ?_)
    cases (xs.all fun x => inI x 0 100000)
    · exact .done
    · exact Ev.tt rfl (Ev.bind (qhr hl) .done)

theorem qlD {xs : List Int} (hl : xs.length ≤ 1048576) : Ev (fun n => qfF n xs) (axisB xs) := by
  have hL : Ev (fun n => qcj xs n 0) (bif allN (fun j => inI (at0 xs j) 0 100000 && stepB xs j) xs.length then .nxt (xs.length : Int) else .ret false) := by
    refine qeE ?_ (fun j hj X hX => Ev.succ ?_)
    · exact Ev.succ (by simp only [qcj, qw (Nat.le_refl _), cond_false]; exact .done)
    · simp only [qcj, qv hj, cond_true, qbm hj, Option.bind_some, qdO, qr (show j < 9223372036854775807 by omega)]
      cases inI (at0 xs j) 0 100000
      · exact .done
      · simp only [Bool.not_true, cond_false, Bool.true_and]
        unfold stepB
        by_cases h0 : j = 0
        · subst h0
          exact Ev.ff (by decide) hX
        · simp only [show (j : Int) - 1 = ((j - 1 : Nat) : Int) by omega, qez (show -9223372036854775808 ≤ ((j - 1 : Nat) : Int) by omega) (by omega), qbm (show j - 1 < xs.length by omega), Option.bind_some]
          have e2 : decide (j = 0) = false := by simp; omega
          have e3 : decide ((j : Int) > 0) = true := by simp; omega
          rw [e2, e3]
          simp only [cond_true, Bool.false_or]
          by_cases hc : at0 xs (j - 1) < at0 xs j
          · have e1 : decide (at0 xs (j - 1) ≥ at0 xs j) = false := by simp; omega
            rw [e1]; simp only [hc, decide_true, cond_true, cond_false]; exact hX
          · have e1 : decide (at0 xs (j - 1) ≥ at0 xs j) = true := by simp; omega
            rw [e1]; simp only [hc, decide_false, cond_true, cond_false]; exact .done
  have e : axisB xs = (allN (fun j => inI (at0 xs j) 0 100000 && stepB xs j) xs.length && lenB xs 1 4) := by
    unfold axisB incB
    rw [qhU, qfU (d := 0), Bool.and_comm]
    rfl
  rw [e]
  unfold qfF
  refine Ev.bind hL ?_
  cases allN (fun j => inI (at0 xs j) 0 100000 && stepB xs j) xs.length
  · exact .done
  · simp only [cond_true, qjh, qkf, Bool.true_and]
    exact Ev.now (by congr 1; unfold lenB; rw [Bool.eq_iff_iff]; simp; omega)

def tableB (t : qF) : Bool := axisB t.Slews && (axisB t.Loads && (decide (t.Values.length = t.Slews.length * t.Loads.length) && (t.Values.all fun x => inI x (-1000000) 1000000)))

theorem qoB {a b : Nat} (ha : a ≤ 1048576) (hb : b ≤ 1048576) : W64 ((a : Int) * (b : Int)) = ((a * b : Nat) : Int) := by
  have h : a * b ≤ 1048576 * 1048576 := Nat.mul_le_mul ha hb
  have e : (a : Int) * (b : Int) = ((a * b : Nat) : Int) := by simp
  rw [e]
  exact qez (by omega) (by omega)

theorem qot {t : qF} (h : qgE t) : Ev (fun n => qgI n t) (tableB t) := by
  unfold qgI tableB
  refine Ev.bind (qmi h.Slews.len) ?_
  cases axisB t.Slews
  · exact .done
  · refine Ev.tt rfl (Ev.bind (qmi h.Loads.len) ?_)
    cases axisB t.Loads
    · exact .done
    · rw [qoB h.Slews.len h.Loads.len]
      have e : (((t.Values.length : Nat) : Int) == ((t.Slews.length * t.Loads.length : Nat) : Int)) = decide (t.Values.length = t.Slews.length * t.Loads.length) := by rw [Bool.eq_iff_iff]; simp; omega
      rw [e]
      cases decide (t.Values.length = t.Slews.length * t.Loads.length)
      · exact .done
      · exact Ev.tt rfl (Ev.tt rfl (Ev.bind (qed h.Values.len) .done))

theorem qnt {t : qF} (h : qgE t) : Ev (fun n => qgC n t) (tableB t) := by
  have hl := h.Values.len
  have hL : Ev (fun n => qc2 t n 0) (bif (t.Values.all fun x => inI x (-1000000) 1000000) then .nxt (t.Values.length : Int) else .ret false) :=
    qi0 (fun n => by simp only [qc2, qw (Nat.le_refl _), cond_false]) (fun j hj X hX => by
      simp only [qc2, qv hj, cond_true, qg6 hj, Option.bind_some, qdO, qr (show j < 9223372036854775807 by omega)]
      cases inI t.Values[j] (-1000000) 1000000
      · exact .done
      · exact hX)
  unfold qgC tableB
  refine Ev.bind (b := !(axisB t.Slews && (axisB t.Loads && decide (t.Values.length = t.Slews.length * t.Loads.length)))) ?_ ?_
  · refine Ev.bind (qlD h.Slews.len) ?_
    cases axisB t.Slews
    · exact .done
    · refine Ev.ff rfl (Ev.bind (qlD h.Loads.len) ?_)
      cases axisB t.Loads
      · exact .done
      · refine Ev.ff rfl (Ev.now ?_)
        rw [qoB h.Slews.len h.Loads.len]
        congr 1
        rw [Bool.eq_iff_iff]; simp; omega
  · cases axisB t.Slews
    · exact .done
    · cases axisB t.Loads
      · exact .done
      · cases decide (t.Values.length = t.Slews.length * t.Loads.length)
        · exact .done
        · refine Ev.ff rfl (Ev.bind hL ?_)
          cases (t.Values.all fun x => inI x (-1000000) 1000000) <;> exact .done
end Go.Fw


namespace Go.Fw
open Go
set_option maxRecDepth 100000

instance : Inhabited qaq := ⟨⟨ByteArray.empty, 0, 0, false⟩⟩
instance : Inhabited qF := ⟨⟨[], [], []⟩⟩
instance : Inhabited qac := ⟨⟨0, 0, 0, 0, [], []⟩⟩
instance : Inhabited qD := ⟨⟨ByteArray.empty, 0, [], [], [], 0, 0⟩⟩
instance : Inhabited qp := ⟨⟨ByteArray.empty, 0, []⟩⟩
instance : Inhabited qaj := ⟨⟨ByteArray.empty, 0, 0⟩⟩
instance : Inhabited qad := ⟨⟨[], [], [], []⟩⟩

theorem lastE {j m : Nat} (h : j < m) (hm : m ≤ 1048576) : ((j : Int) == W64 ((m : Int) - 1)) = decide (j + 1 = m) := by
  rcases qqd h with h | h
  · exact h
  · omega
theorem qhB {α : Type} [Inhabited α] {xs : List α} {g : α → ByteArray} {j : Nat} (h : j < xs.length) : strAt (xs.map g) j = g (gt xs j) := by
  rw [qj1 (by simpa using h), qiv h]; simp
/-- Names that differ, by the list that they are taken from. -/
theorem qjs {α : Type} {xs : List α} {g : α → ByteArray} {ok : α → Prop} (h : okL ok xs) (hg : ∀ x, ok x → okS (g x)) : okL okS (xs.map g) :=
  ⟨by rw [List.length_map]; exact h.1, fun y hy => by
    obtain ⟨x, hx, rfl⟩ := List.mem_map.1 hy
    exact hg x (h.2 x hx)⟩
theorem qio {α β : Type} {xs : List α} {g : α → β} {j : Nat} (h : j < xs.length) (hl : xs.length ≤ 1048576) {y : β} : appS ((xs.take j).map g) [y] = some ((xs.take j).map g ++ [y]) :=
  qd0 (by simp; omega)

/-! ### Pins -/

def pinB (ps : List qaq) (j : Nat) : Bool :=
  bif decide (j + 1 = ps.length) then ((gt ps j).Dir == 2) && (((gt ps j).Cap == 0) && !(gt ps j).Clock) else ((gt ps j).Dir == 1) && inI (gt ps j).Cap 0 500
def pinsB (ps : List qaq) : Bool := allN (pinB ps) ps.length && (lenB ps 2 5 && namesB (ps.map qaq.Name))
def clkN (ps : List qaq) (j : Nat) : Nat := cntP (fun i => (gt ps i).Clock) j

theorem qon {ps : List qaq} (h : okL qiX ps) : Ev (fun n => qgy n ps) (pinsB ps) := by
  have hl := h.len
  have hL : Ev (fun n => qbW ps n ([] : List ByteArray) 0) (bif allN (pinB ps) ps.length then .nxt (ps.map qaq.Name, (ps.length : Int)) else .ret false) := by
    refine loopN (Lf := qbW ps) (S := fun j => (ps.take j).map qaq.Name) (pinB ps) (fun n => ?_) (fun j hj hp X hX => ?_)
    · simp only [qbW, qw (Nat.le_refl _), cond_false, List.take_length]
    · simp only [qbW, qv hj, cond_true, qal hj, Option.bind_some, qio hj hl, qeQ (g := qaq.Name) hj, lastE hj hl, bne, qby, qdJ, qr (show j < 9223372036854775807 by omega)]
      generalize hc : pinB ps j = c at hX ⊢
      unfold pinB at hc
      cases hd : decide (j + 1 = ps.length)
      · rw [hd] at hc
        simp only [cond_false] at hc ⊢
        subst hc
        exact Ev.okP (fun h1 => Ev.okP1 (fun h2 => hX (by rw [h1, h2]; rfl)))
      · rw [hd] at hc
        simp only [cond_true] at hc ⊢
        subst hc
        refine Ev.okP (fun h1 => Ev.okP (fun h2 => Ev.chkP1 (fun h3 => hX (by rw [h1, h2, h3]; rfl))))
  unfold qgy pinsB
  refine Ev.bind hL ?_
  cases allN (pinB ps) ps.length
  · exact .done
  · simp only [cond_true, qbw, qdJ, Option.bind_some, show inI (ps.length : Int) 2 5 = lenB ps 2 5 from qk9 (lo := 2) (hi := 5), Bool.true_and]
    exact Ev.andP (fun _ => Ev.last (qhf (qjs h (fun x hx => hx.Name))))

/-- A check of the reference, one pin. -/
def pinS (ps : List qaq) (j : Nat) : Bool := allN (neB (ps.map qaq.Name) j) j && ((nameB (gt ps j).Name && inI (gt ps j).Cap 0 500) && (bif decide (j + 1 = ps.length) then ((gt ps j).Dir == 2) && (((gt ps j).Cap == 0) && !(gt ps j).Clock) else ((gt ps j).Dir == 1)))

theorem qqu {ps : List qaq} : (lenB ps 2 5 && allN (pinS ps) ps.length) = pinsB ps := by
  have e : namesB (ps.map qaq.Name) = allN (fun j => nameB (gt ps j).Name && allN (neB (ps.map qaq.Name) j) j) ps.length := by
    unfold namesB
    rw [List.length_map]
    exact qf5 (fun j hj => by rw [qhB hj])
  unfold pinsB
  rw [e, ← Bool.and_assoc, Bool.and_comm (allN (pinB ps) ps.length), Bool.and_assoc, ← qhU]
  congr 1
  refine qf5 (fun j hj => ?_)
  unfold pinS pinB
  cases hd : decide (j + 1 = ps.length)
  · simp only [cond_false]
    cases allN (neB (ps.map qaq.Name) j) j <;> cases nameB (gt ps j).Name <;> cases inI (gt ps j).Cap 0 500 <;> cases ((gt ps j).Dir == 1) <;> rfl
  · simp only [cond_true]
    cases hcap : ((gt ps j).Cap == 0)
    · simp
    · have : inI (gt ps j).Cap 0 500 = true := by rw [beq_iff_eq] at hcap; rw [hcap]; rfl
      rw [this]
      cases allN (neB (ps.map qaq.Name) j) j <;> cases nameB (gt ps j).Name <;> cases ((gt ps j).Dir == 2) <;> cases (gt ps j).Clock <;> rfl

theorem qn7 {c : qD} (h : okL qiX c.Pins) : Ev (fun n => qgv n c) (bif pinsB c.Pins then (((clkN c.Pins c.Pins.length : Nat) : Int), true) else (0, false)) := by
  have hl := h.len
  have hL2 : ∀ j, j < c.Pins.length → Ev (fun n => qcS c (j : Int) (gt c.Pins j) n 0) (bif allN (neB (c.Pins.map qaq.Name) j) j then .nxt (j : Int) else .ret (0, false)) := by
    intro j hj
    refine qeE ?_ (fun i hi X hX => Ev.succ ?_)
    · exact Ev.succ (by simp only [qcS, qw (Nat.le_refl _), cond_false]; exact .done)
    · simp only [qcS, qv hi, cond_true, qal (show i < c.Pins.length by omega), Option.bind_some, qfS, qr (show i < 9223372036854775807 by omega)]
      unfold neB
      rw [qhB (g := qaq.Name) (show i < c.Pins.length by omega), qhB (g := qaq.Name) hj]
      exact Ev.chkP1 (fun _ => hX)
  have hL1 : Ev (fun n => qbU c n 0 0) (bif allN (pinS c.Pins) c.Pins.length then .nxt (((clkN c.Pins c.Pins.length : Nat) : Int), (c.Pins.length : Int)) else .ret (0, false)) := by
    refine loopN (Lf := qbU c) (S := fun j => ((clkN c.Pins j : Nat) : Int)) (pinS c.Pins) (fun n => ?_) (fun j hj hp X hX => ?_)
    · simp only [qbU, qw (Nat.le_refl _), cond_false]
    · have hn : clkN c.Pins j ≤ j := qea
      have ejl : ((j : Int) == W64 ((c.Pins.length : Int) - 1)) = decide (j + 1 = c.Pins.length) := lastE hj hl
      have elt : decide ((j : Int) < W64 ((c.Pins.length : Int) - 1)) = !decide (j + 1 = c.Pins.length) := by
        rw [qez (by omega) (by omega), Bool.eq_iff_iff]; simp; omega
      simp only [qbU, qv hj, cond_true, qal hj, Option.bind_some, qr (show j < 9223372036854775807 by omega), qr (show clkN c.Pins j < 9223372036854775807 by omega), ejl, elt, qdO]
      unfold pinS
      refine Ev.bind (hL2 j hj) ?_
      cases ha : allN (neB (c.Pins.map qaq.Name) j) j
      · exact .done
      · simp only [cond_true, Bool.true_and]
        refine Ev.chkT ?_ (fun h1 => ?_)
        · exact Ev.or (qjV (qiu h hj).Name) (fun _ => .done)
        · refine Ev.chkT1 ?_ (fun h2 => ?_)
          · cases decide (j + 1 = c.Pins.length)
            · exact .done
            · simp only [cond_true, Bool.not_true, cond_false, bne, qby]
              cases ((gt c.Pins j).Dir == 2) <;> cases ((gt c.Pins j).Cap == 0) <;> cases (gt c.Pins j).Clock <;> exact .done
          · have hX := hX (by unfold pinS; rw [ha, h1, h2]; rfl)
            have hck : clkN c.Pins (j + 1) = clkN c.Pins j + (bif (gt c.Pins j).Clock then 1 else 0) := rfl
            rw [hck] at hX
            cases hc : (gt c.Pins j).Clock
            · rw [hc] at hX; exact Ev.ff rfl hX
            · rw [hc] at hX; exact Ev.tt rfl hX
  rw [← qqu]
  unfold qgv
  refine Ev.guard ?_ (fun h1 => ?_)
  · unfold lenB
    have e1 : decide ((c.Pins.length : Int) < 2) = !decide (2 ≤ c.Pins.length) := by rw [Bool.eq_iff_iff]; simp; omega
    have e2 : decide ((c.Pins.length : Int) > 5) = !decide (c.Pins.length ≤ 5) := by rw [Bool.eq_iff_iff]; simp; omega
    rw [e1, e2]
    cases decide (2 ≤ c.Pins.length) <;> cases decide (c.Pins.length ≤ 5) <;> exact .done
  · refine Ev.bind hL1 ?_
    cases allN (pinS c.Pins) c.Pins.length <;> exact .done

/-! ### Lists of tables -/

def mnL (xs : List Int) : Int := (xs.drop 1).foldl (fun m y => if y < m then y else m) (at0 xs 0)
def mxL (xs : List Int) : Int := (xs.drop 1).foldl (fun m y => if y > m then y else m) (at0 xs 0)

theorem qlh {t : qF} (h : tableB t = true) : 1 ≤ t.Values.length := by
  unfold tableB axisB lenB at h
  simp only [Bool.and_eq_true, decide_eq_true_eq] at h
  obtain ⟨⟨⟨h1, _⟩, _⟩, ⟨⟨h2, _⟩, _⟩, h3, _⟩ := h
  rw [h3]
  exact Nat.mul_pos h1 h2

theorem qqt {xs : List Int} (h1 : 1 ≤ xs.length) (hl : xs.length ≤ 1048576) : Ev (fun n => qeC n xs) (mnL xs) := by
  have hL := (qmA (Lf := fun n t j => qbF xs n t j) (xs := xs) (step := fun (m y : Int) => if y < m then y else m) (fin := fun t => (t, (xs.length : Int))) 1 (at0 xs 0) (fun _ _ => True) h1 trivial (fun _ _ _ _ => trivial)
    (fun n t => by simp only [qbF, qw (Nat.le_refl _), cond_false])
    (fun j t hj _ X hX => by simpa only [qbF, qv hj, cond_true, qg6 hj, Option.bind_some, qr (show j < 9223372036854775807 by omega)] using hX)).1
  unfold qeC
  rw [show decide ((xs.length : Int) < 1) = false by simp; omega, show idx xs (0 : Int) = some (at0 xs 0) from qbm (j := 0) (by omega)]
  simp only [cond_false, Option.bind_some]
  exact Ev.bind hL .done

theorem qoj {t : qF} (h : qgE t) : Ev (fun n => qeH n t) (bif tableB t then (⟨mnL t.Values, mxL t.Values⟩, 0) else (⟨0, 0⟩, 1)) := by
  unfold qeH
  refine Ev.chk1 (qnt h) (fun hb => ?_)
  have h1 := qlh hb
  have hl := h.Values.len
  have hL := (qmA (Lf := fun n (t' : Int × Int) j => qbE t n t'.1 t'.2 j) (xs := t.Values) (step := fun (m : Int × Int) y => (if y < m.1 then y else m.1, if y > m.2 then y else m.2)) (fin := fun t' => (t'.1, t'.2, (t.Values.length : Int))) 1 (at0 t.Values 0, at0 t.Values 0) (fun _ _ => True) h1 trivial (fun _ _ _ _ => trivial)
    (fun n t => by simp only [qbE, qw (Nat.le_refl _), cond_false])
    (fun j t hj _ X hX => by simpa only [qbE, qv hj, cond_true, qg6 hj, Option.bind_some, qr (show j < 9223372036854775807 by omega)] using hX)).1
  have hf : ∀ (ys : List Int) (a b : Int), ys.foldl (fun (m : Int × Int) y => (if y < m.1 then y else m.1, if y > m.2 then y else m.2)) (a, b) = (ys.foldl (fun m y => if y < m then y else m) a, ys.foldl (fun m y => if y > m then y else m) b) := by
    intro ys
    induction ys with
    | nil => intro a b; rfl
    | cons y ys ih => intro a b; simp only [List.foldl_cons, ih]
  rw [hf] at hL
  rw [show idx t.Values (0 : Int) = some (at0 t.Values 0) from qbm (j := 0) (by omega)]
  simp only [Option.bind_some]
  exact Ev.bind hL .done

def tabB (pos : Bool) (t : qF) : Bool := tableB t && (!pos || decide (0 ≤ mnL t.Values))
def tablesB (ts : List qF) (pos : Bool) : Bool := decide (ts.length = 2) && ts.all (tabB pos)

theorem qiD {ts : List qF} {pos : Bool} (h : okL qgE ts) : Ev (fun n => qdT n ts pos) (tablesB ts pos) := by
  have hl := h.len
  have h1 : Ev (fun n => qai n ts pos) (ixL (fun x => !tabB pos x) ts) :=
    qeI (fin := (ts.length : Int)) (Lf := qL ts pos) (pf := fun n x => qeA n x pos) (fun x hx => by
        unfold qeA tabB
        refine Ev.or (qot (h.2 x hx)) (fun hb => ?_)
        cases pos
        · exact .done
        · refine Ev.tt rfl (Ev.bind (qqt (qlh hb) (h.2 x hx).Values.len) (Ev.now ?_))
          congr 1
          rw [Bool.eq_iff_iff]; simp)
      (fun n => by simp only [qL, qw (Nat.le_refl _), cond_false])
      (fun n j x hx => by
        have hj := (List.getElem?_eq_some_iff.1 hx).1
        simp only [qL, qv hj, cond_true, qaS hx, Option.bind_some, qr (show j < 9223372036854775807 by omega)])
      (fun n => by unfold qai; congr 1; funext o; cases o <;> rfl)
  unfold qdT qay tablesB
  rw [show ((ts.length : Int) == 2) = decide (ts.length = 2) by rw [Bool.eq_iff_iff]; simp; omega]
  refine Ev.andP (fun _ => Ev.bind (Ev.bind h1 (Ev.now rfl)) (Ev.now ?_))
  rw [qid, qld]

theorem qgF {ts : List qF} {pos : Bool} (h : okL qgE ts) : Ev (fun n => qcF n ts pos) (tablesB ts pos) := by
  unfold qcF tablesB
  rw [show ((ts.length : Int) != 2) = !decide (ts.length = 2) by rw [Bool.eq_iff_iff]; simp; omega]
  simp only [qby]
  refine Ev.andP (fun h2 => ?_)
  have h2 : ts.length = 2 := by simpa using h2
  have hL : Ev (fun n => qbQ ts pos n 0) (bif allN (fun j => tabB pos (gt ts j)) ts.length then .nxt (2 : Int) else .ret false) := by
    refine qeE (len := ts.length) ?_ (fun j hj X hX => Ev.succ ?_)
    · rw [h2]; exact Ev.succ (by simp only [qbQ]; exact .done)
    · simp only [qbQ, show decide ((j : Int) < 2) = true by simp; omega, cond_true, qal hj, Option.bind_some, qr (show j < 9223372036854775807 by omega)]
      refine Ev.bind (qoj (qiu h hj)) ?_
      unfold tabB
      cases tableB (gt ts j)
      · exact .done
      · simp only [cond_true, Bool.true_and]
        refine Ev.ff rfl ?_
        cases pos
        · exact hX
        · refine Ev.tt rfl ?_
          rw [show decide (mnL (gt ts j).Values < 0) = !decide (0 ≤ mnL (gt ts j).Values) by rw [Bool.eq_iff_iff]; simp]
          simp only [qby]
          exact Ev.okP1 (fun _ => hX)
  rw [qhq]
  refine Ev.bind hL ?_
  cases allN (fun j => tabB pos (gt ts j)) ts.length <;> exact .done
end Go.Fw


namespace Go.Fw
open Go
set_option maxRecDepth 100000

theorem qft {α : Type} [Inhabited α] {xs : List α} {x : Int} (h0 : 0 ≤ x) (h1 : x < xs.length) : idx xs x = some (gt xs x.toNat) := by
  have := qal (xs := xs) (j := x.toNat) (by omega)
  rwa [← qjS h0] at this
theorem qmo {q : Nat → Bool} {m n : Nat} (h : m ≤ n) : cntP q m ≤ cntP q n := by
  induction n with
  | zero => obtain rfl : m = 0 := by omega
            exact Nat.le_refl _
  | succ n ih =>
    rcases Nat.lt_or_eq_of_le h with h | rfl
    · exact Nat.le_trans (ih (by omega)) (Nat.le_add_right _ _)
    · exact Nat.le_refl _
theorem qiC {m k : Nat} : decide ((m : Int) ≤ (k : Int)) = decide (m ≤ k) := by rw [Bool.eq_iff_iff]; simp
theorem qnv {q : Nat → Bool} {n i j : Nat} (hi : i < j) (hj : j < n) (h1 : q i = true) (h2 : q j = true) : 2 ≤ cntP q n := by
  have e1 : cntP q (i + 1) = cntP q i + 1 := by rw [cntP, h1]; rfl
  have e2 : cntP q (j + 1) = cntP q j + 1 := by rw [cntP, h2]; rfl
  have m1 := qmo (q := q) (show i + 1 ≤ j by omega)
  have m2 := qmo (q := q) (show j + 1 ≤ n by omega)
  omega
theorem qnJ {q : Nat → Bool} {n i j : Nat} (hn : cntP q n ≤ 1) (hi : i < n) (hj : j < n) (h1 : q i = true) (h2 : q j = true) : i = j := by
  rcases Nat.lt_trichotomy i j with h | h | h
  · have := qnv h hj h1 h2; omega
  · exact h
  · have := qnv h hi h2 h1; omega

/-! ### Arcs -/

def clkIx (ps : List qaq) : Int := ixL (fun p => p.Clock) ps
def clkAt (ps : List qaq) (x : Int) : Bool := (gt ps x.toNat).Clock

theorem qpU {c : qD} (hl : c.Pins.length ≤ 1048576) : Ev (fun n => qe4 n c) (clkIx c.Pins) := by
  unfold qe4
  refine Ev.bind (b := clkIx c.Pins) ?_ .done
  exact qeI (fin := (c.Pins.length : Int)) (Lf := qN c.Pins) (pf := fun n x => qfh n x) (fun _ _ => .done)
    (fun n => by simp only [qN, qw (Nat.le_refl _), cond_false])
    (fun n j x hx => by
      have hj := (List.getElem?_eq_some_iff.1 hx).1
      simp only [qN, qv hj, cond_true, qaS hx, Option.bind_some, qr (show j < 9223372036854775807 by omega)])
    (fun n => by unfold qaN; congr 1; funext o; cases o <;> rfl)

def arcI (ps : List qaq) (a : qac) : Bool :=
  bif (a.Kind == 4) || (a.Kind == 5) then
    (a.Sense == 0) && (((a.Slew.length : Int) == 0) && (tablesB a.Delay false && ((a.From == clkIx ps) && (decide (a.From ≥ 0) && (inI a.To 0 (ps.length - 2) && !(a.To == a.From))))))
  else
    (tablesB a.Delay true && (tablesB a.Slew true && ((a.To == (ps.length : Int) - 1) && inI a.From 0 (ps.length - 2)))) &&
      (bif a.Kind == 1 then !clkAt ps a.From && inI a.Sense 1 3 else (bif (a.Kind == 2) || (a.Kind == 3) then clkAt ps a.From && (a.Sense == 0) else false))

def arcS (ps : List qaq) (a : qac) : Bool :=
  (inI a.From 0 (ps.length - 2) && inI a.To 0 (ps.length - 1)) &&
    (bif a.Kind == 1 then !clkAt ps a.From && ((a.To == (ps.length : Int) - 1) && (inI a.Sense 1 3 && (tablesB a.Delay true && tablesB a.Slew true)))
     else (bif (a.Kind == 2) || (a.Kind == 3) then clkAt ps a.From && ((a.To == (ps.length : Int) - 1) && ((a.Sense == 0) && (tablesB a.Delay true && tablesB a.Slew true)))
     else (bif (a.Kind == 4) || (a.Kind == 5) then clkAt ps a.From && (decide (a.To < (ps.length : Int) - 1) && (!clkAt ps a.To && ((a.Sense == 0) && (tablesB a.Delay false && ((a.Slew.length : Int) == 0))))) else false)))

theorem qkE {c d : Bool} : (bif c then some c else some d) = some (c || d) := by cases c <;> rfl
theorem qnq {c d : Bool} : (bif c then some true else some d) = some (c || d) := by cases c <;> rfl

theorem qnQ {n : Nat} {k : Int} : qgu n k = some ((k == 4) || (k == 5)) := by simp only [qgu, qnq]
theorem qpY {c : qD} {a : qac} (h : okL qiX c.Pins) (ha : qjQ a) (hm : 2 ≤ c.Pins.length) : Ev (fun n => qe6 n c a) (arcI c.Pins a) := by
  have hl := h.len
  have e1 : W64 ((c.Pins.length : Int) - 1) = (c.Pins.length : Int) - 1 := qbK (by omega)
  have e2 : W64 ((c.Pins.length : Int) - 1 - 1) = (c.Pins.length : Int) - 2 := by rw [qez (by omega) (by omega)]; omega
  simp only [qe6, qnQ, Option.bind_some, qel, qb4, qbw, e1, e2, qdJ, qkE, bne]
  unfold arcI
  refine Ev.iff (fun _ => Ev.last ?_) (fun _ => Ev.guardB ?_ (fun hb => ?_))
  · exact Ev.andP fun _ => Ev.andP fun _ => Ev.and (qiD ha.Delay) fun _ => Ev.bind (qpU hl) (Ev.andP fun _ => Ev.andP fun _ => Ev.andP fun _ => .done)
  · refine Ev.or (qiD ha.Delay) fun _ => Ev.or (qiD ha.Slew) fun _ => ?_
    simp only [qby]
    exact Ev.orBP fun _ => .done
  · have hf : 0 ≤ a.From ∧ a.From ≤ (c.Pins.length : Int) - 2 := by
      simp only [Bool.and_eq_true, qcP] at hb
      exact hb.2.2.2
    simp only [qft hf.1 (show a.From < (c.Pins.length : Int) by omega), Option.bind_some]
    exact Ev.iff (fun _ => Ev.andP fun _ => .done) (fun _ => Ev.iff (fun _ => Ev.andP fun _ => .done) (fun _ => .done))

theorem qpb {c : qD} {a : qac} (h : okL qiX c.Pins) (ha : qjQ a) (hm : 2 ≤ c.Pins.length) : Ev (fun n => qhk n c a) (arcS c.Pins a) := by
  have hl := h.len
  have e1 : W64 ((c.Pins.length : Int) - 1) = (c.Pins.length : Int) - 1 := qbK (by omega)
  have e2 : W64 ((c.Pins.length : Int) - 1 - 1) = (c.Pins.length : Int) - 2 := by rw [qez (by omega) (by omega)]; omega
  simp only [qhk, Option.bind_some, e1, e2, qdO, qkE]
  unfold arcS
  refine Ev.guardB ?_ (fun hb => ?_)
  · simp only [qby]
    exact Ev.orBP fun _ => .done
  · have hf : (0 ≤ a.From ∧ a.From ≤ (c.Pins.length : Int) - 2) ∧ (0 ≤ a.To ∧ a.To ≤ (c.Pins.length : Int) - 1) := by
      simp only [Bool.and_eq_true, qcP] at hb
      exact hb
    simp only [qft hf.1.1 (show a.From < (c.Pins.length : Int) by omega), qft hf.2.1 (show a.To < (c.Pins.length : Int) by omega), Option.bind_some]
    refine Ev.iff (fun _ => ?_) (fun _ => Ev.iff (fun _ => ?_) (fun _ => Ev.iff (fun _ => ?_) (fun _ => .done)))
    · exact Ev.andP fun _ => Ev.andP fun _ => Ev.andP fun _ => Ev.and (qgF ha.Delay) fun _ => Ev.last (qgF ha.Slew)
    · exact Ev.andP fun _ => Ev.andP fun _ => Ev.andP fun _ => Ev.and (qgF ha.Delay) fun _ => Ev.last (qgF ha.Slew)
    · exact Ev.andP fun _ => Ev.andP fun _ => Ev.andP fun _ => Ev.andP fun _ => Ev.and (qgF ha.Delay) fun _ => .done

/-- The place of the clock, where there is one at most. -/
theorem qkk {ps : List qaq} (h1 : clkN ps ps.length ≤ 1) {x : Int} (hx : 0 ≤ x) : clkIx ps = x ↔ x < ps.length ∧ clkAt ps x = true := by
  unfold clkIx ixL
  cases hf : ps.findIdx? (fun p => p.Clock) with
  | some j =>
    obtain ⟨hj, hp, _⟩ := List.findIdx?_eq_some_iff_getElem.1 hf
    have hpj : (gt ps j).Clock = true := by rw [qiv hj]; exact hp
    constructor
    · intro e
      have e : (j : Int) = x := e
      subst e
      exact ⟨by omega, by unfold clkAt; rw [Int.toNat_natCast]; exact hpj⟩
    · rintro ⟨hl, hc⟩
      have := qnJ h1 hj (show x.toNat < ps.length by omega) hpj hc
      show (j : Int) = x
      omega
  | none =>
    have hn := List.findIdx?_eq_none_iff.1 hf
    constructor
    · intro e
      have e : (-1 : Int) = x := e
      omega
    · rintro ⟨hl, hc⟩
      have hxl : x.toNat < ps.length := by omega
      unfold clkAt at hc
      rw [qiv hxl] at hc
      have := hn _ (List.getElem_mem hxl)
      rw [hc] at this
      exact absurd this (by decide)

theorem qhN {ps : List qaq} (h : pinsB ps = true) : (2 ≤ ps.length ∧ ps.length ≤ 5) ∧ clkAt ps ((ps.length : Int) - 1) = false := by
  unfold pinsB lenB at h
  simp only [Bool.and_eq_true, decide_eq_true_eq] at h
  refine ⟨h.2.1, ?_⟩
  have h1 := qaQ.1 h.1 (ps.length - 1) (by omega)
  unfold pinB at h1
  rw [show decide (ps.length - 1 + 1 = ps.length) = true by simp; omega] at h1
  simp only [cond_true, Bool.and_eq_true, Bool.not_eq_true'] at h1
  unfold clkAt
  rw [show ((ps.length : Int) - 1).toNat = ps.length - 1 by omega]
  exact h1.2.2

theorem qpL {ps : List qaq} {a : qac} (h : pinsB ps = true) (h1 : clkN ps ps.length ≤ 1) : arcI ps a = arcS ps a := by
  obtain ⟨⟨hm, hm5⟩, hlast⟩ := qhN h
  rw [Bool.eq_iff_iff]
  unfold arcI arcS
  cases h45 : ((a.Kind == 4) || (a.Kind == 5)) with
  | true =>
    have k1 : (a.Kind == 1) = false := by simp at h45 ⊢; omega
    have k23 : ((a.Kind == 2) || (a.Kind == 3)) = false := by simp at h45 ⊢; omega
    rw [k1, k23]
    simp only [cond_true, cond_false, Bool.and_eq_true, qcP, decide_eq_true_eq, beq_iff_eq, Bool.not_eq_true', beq_eq_false_iff_ne, ne_eq]
    constructor
    · rintro ⟨hs, hsl, hd, hf, hf0, ht, hne⟩
      obtain ⟨hl, hc⟩ := (qkk h1 hf0).1 hf.symm
      have hfl : a.From ≠ (ps.length : Int) - 1 := by intro e; rw [e, hlast] at hc; cases hc
      refine ⟨⟨⟨hf0, by omega⟩, ⟨ht.1, by omega⟩⟩, hc, by omega, ?_, hs, hd, hsl⟩
      cases hct : clkAt ps a.To with
      | false => rfl
      | true =>
        have := (qkk h1 ht.1).2 ⟨by omega, hct⟩
        omega
    · rintro ⟨⟨hf, ht⟩, hc, hlt, hct, hs, hd, hsl⟩
      have := (qkk h1 hf.1).2 ⟨by omega, hc⟩
      refine ⟨hs, hsl, hd, this.symm, hf.1, ⟨ht.1, by omega⟩, ?_⟩
      intro e
      rw [e, hc] at hct
      cases hct
  | false =>
    simp only [cond_false, Bool.and_eq_true, qcP, beq_iff_eq]
    cases (a.Kind == 1)
    · cases ((a.Kind == 2) || (a.Kind == 3))
      · simp
      · simp only [cond_true, cond_false, Bool.and_eq_true, beq_iff_eq]
        constructor
        · rintro ⟨⟨h1, h2, h3, h4⟩, h5, h6⟩
          exact ⟨⟨h4, by omega⟩, h5, h3, h6, h1, h2⟩
        · rintro ⟨⟨h4, h7⟩, h5, h3, h6, h1, h2⟩
          exact ⟨⟨h1, h2, h3, h4⟩, h5, h6⟩
    · simp only [cond_true, Bool.and_eq_true, qcP, Bool.not_eq_true', beq_iff_eq]
      constructor
      · rintro ⟨⟨h1, h2, h3, h4⟩, h5, h6⟩
        exact ⟨⟨h4, by omega⟩, h5, h3, h6, h1, h2⟩
      · rintro ⟨⟨h4, h7⟩, h5, h3, h6, h1, h2⟩
        exact ⟨⟨h1, h2, h3, h4⟩, h5, h6⟩

theorem qmG {ps : List qaq} {a : qac} (h : arcS ps a = true) : 1 ≤ a.Kind ∧ a.Kind ≤ 5 := by
  unfold arcS at h
  rw [Bool.and_eq_true] at h
  have h := h.2
  cases h1 : (a.Kind == 1)
  · cases h2 : ((a.Kind == 2) || (a.Kind == 3))
    · cases h4 : ((a.Kind == 4) || (a.Kind == 5))
      · rw [h1, h2, h4] at h; cases h
      · simp at h4; omega
    · simp at h2; omega
  · simp at h1; omega

def sameArc (x y : qac) : Bool := (x.Kind == y.Kind) && ((x.From == y.From) && (x.To == y.To))
def newArc (ar : List qac) (j : Nat) : Bool := allN (fun i => !sameArc (gt ar i) (gt ar j)) j

theorem qnN {c : qD} (h : okL qiX c.Pins) (ha : okL qjQ c.Arcs) (hm : 2 ≤ c.Pins.length) : Ev (fun n => qej n c) (allN (fun j => arcI c.Pins (gt c.Arcs j) && newArc c.Arcs j) c.Arcs.length && decide (c.Arcs.length ≤ 8)) := by
  have hl := ha.len
  have h1 : ∀ (ar : List qac) (y : qac), ar.length ≤ 1048576 → Ev (fun n => qae n ar y) (ar.any fun x => sameArc x y) := by
    intro ar y hl
    unfold qae
    refine Ev.bind (b := ixL (fun x => sameArc x y) ar) (qeI (fin := (ar.length : Int)) (Lf := qK ar y) (pf := fun n x => qdE n x y) (fun x _ => ?_)
      (fun n => by simp only [qK, qw (Nat.le_refl _), cond_false])
      (fun n j x hx => by
        have hj := (List.getElem?_eq_some_iff.1 hx).1
        simp only [qK, qv hj, cond_true, qaS hx, Option.bind_some, qr (show j < 9223372036854775807 by omega)])
      (fun n => by unfold qaG; congr 1; funext o; cases o <;> rfl)) (Ev.now (by rw [qid]))
    unfold qdE sameArc
    exact Ev.andP fun _ => Ev.andP fun _ => .done
  have hL : Ev (fun n => qbx c n 0) (bif allN (fun j => arcI c.Pins (gt c.Arcs j) && newArc c.Arcs j) c.Arcs.length then .nxt (c.Arcs.length : Int) else .ret false) := by
    refine qeE ?_ (fun j hj X hX => Ev.succ ?_)
    · exact Ev.succ (by simp only [qbx, qw (Nat.le_refl _), cond_false]; exact .done)
    · simp only [qbx, qv hj, cond_true, qal hj, Option.bind_some, qo1 (Nat.le_of_lt hj), qr (show j < 9223372036854775807 by omega)]
      refine Ev.chk (qpY h (qiu ha hj) hm) fun _ => Ev.chkT1 ?_ (fun _ => hX)
      refine (h1 _ _ (by simp; omega)).cast ?_
      rw [qpm (Nat.le_of_lt hj)]; rfl
  unfold qej
  refine Ev.bind hL ?_
  cases allN (fun j => arcI c.Pins (gt c.Arcs j) && newArc c.Arcs j) c.Arcs.length
  · exact .done
  · refine Ev.now ?_
    show some (decide ((c.Arcs.length : Int) ≤ ((8 : Nat) : Int))) = some (true && decide (c.Arcs.length ≤ 8))
    rw [qiC, Bool.true_and]

def hasB (ar : List qac) (k : Int) : Bool := ar.any fun a => a.Kind == k
theorem qky {c : qD} {k : Int} (hl : c.Arcs.length ≤ 1048576) : Ev (fun n => qcB n c k) (hasB c.Arcs k) := by
  unfold qcB qaH
  exact Ev.last (Ev.bind (b := ixL (fun x => x.Kind == k) c.Arcs) (qeI (fin := (c.Arcs.length : Int)) (Lf := qO c.Arcs k) (pf := fun n x => qf3 n x k) (fun x _ => .done)
      (fun n => by simp only [qO, qw (Nat.le_refl _), cond_false])
      (fun n j x hx => by
        have hj := (List.getElem?_eq_some_iff.1 hx).1
        simp only [qO, qv hj, cond_true, qaS hx, Option.bind_some, qr (show j < 9223372036854775807 by omega)])
      (fun n => by unfold qaZ; congr 1; funext o; cases o <;> rfl)) (Ev.now (by rw [qid]; rfl)))

def kindN (ar : List qac) (k : Nat) (j : Nat) : Nat := cntP (fun i => (gt ar i).Kind == (k : Int)) j
theorem qmE {ar : List qac} {k : Nat} : decide (((kindN ar k ar.length : Nat) : Int) > 0) = hasB ar k := by
  rw [show decide (((kindN ar k ar.length : Nat) : Int) > 0) = decide (0 < kindN ar k ar.length) by simp]
  unfold kindN hasB
  rw [qnE, qpO]
theorem qop {ar : List qac} {k : Nat} : (((kindN ar k ar.length : Nat) : Int) == 0) = !hasB ar k := by
  rw [← qmE, Bool.eq_iff_iff]; simp

theorem qnI {c : qD} (ha : okL qjQ c.Arcs) (hk : ∀ j, j < c.Arcs.length → 1 ≤ (gt c.Arcs j).Kind ∧ (gt c.Arcs j).Kind ≤ 5) : Ev (fun n => qfT n c) (vecC (fun k => kindN c.Arcs k c.Arcs.length) 6) := by
  have hl := ha.len
  have hL : Ev (fun n => qbZ c n (vecC (fun _ => 0) 6) 0) (vecC (fun k => kindN c.Arcs k c.Arcs.length) 6, (c.Arcs.length : Int)) := by
    refine loopF (Lf := qbZ c) (S := fun j => vecC (fun k => kindN c.Arcs k j) 6) (len := c.Arcs.length) (fun n => ?_) (fun j hj X hX => ?_)
    · simp only [qbZ, qw (Nat.le_refl _), cond_false]
    · obtain ⟨k1, k5⟩ := hk j hj
      have ek : (gt c.Arcs j).Kind = (((gt c.Arcs j).Kind.toNat : Nat) : Int) := qjS (by omega)
      have hc : kindN c.Arcs (gt c.Arcs j).Kind.toNat j ≤ j := qea
      simp only [qbZ, qv hj, cond_true, qal hj, Option.bind_some, qr (show j < 9223372036854775807 by omega)]
      rw [ek, qhV (show (gt c.Arcs j).Kind.toNat < 6 by omega)]
      simp only [Option.bind_some]
      rw [qmm (c := fun k => kindN c.Arcs k j) (by show kindN c.Arcs _ j < _; omega)]
      have : vecC (fun i => kindN c.Arcs i j + (bif decide ((gt c.Arcs j).Kind.toNat = i) then 1 else 0)) 6 = vecC (fun k => kindN c.Arcs k (j + 1)) 6 := by
        refine qhO (fun k _ => ?_)
        show _ = kindN c.Arcs k j + (bif (gt c.Arcs j).Kind == (k : Int) then 1 else 0)
        congr 2
        rw [Bool.eq_iff_iff]; simp; omega
      rw [this]
      exact hX
  unfold qfT
  rw [show mkS 6 (0 : Int) = some (vecC (fun _ => 0) 6) from qjt (m := 6) (by omega)]
  simp only [Option.bind_some]
  exact Ev.bind hL .done

/-! ### Cells -/

def kindB (c : qD) : Bool :=
  bif c.Kind == 1 then (((clkN c.Pins c.Pins.length : Nat) : Int) == 0) && (((c.Truth.length : Int) == ((2 ^ (c.Pins.length - 1) : Nat) : Int)) && (c.Truth.all fun x => inI x 0 1))
  else bif c.Kind == 2 then (((clkN c.Pins c.Pins.length : Nat) : Int) == 1) && (((c.Truth.length : Int) == 0) && (!hasB c.Arcs 1 && !(hasB c.Arcs 2 == hasB c.Arcs 3)))
  else bif c.Kind == 3 then (((clkN c.Pins c.Pins.length : Nat) : Int) == 1) && (((c.Truth.length : Int) == 0) && (hasB c.Arcs 1 && (hasB c.Arcs 2 && !hasB c.Arcs 3)))
  else false

theorem qmw {c : qD} (h : kindB c = true) : clkN c.Pins c.Pins.length ≤ 1 := by
  unfold kindB at h
  cases h1 : (c.Kind == 1)
  · cases h2 : (c.Kind == 2)
    · cases h3 : (c.Kind == 3)
      · rw [h1, h2, h3] at h; cases h
      · rw [h1, h2, h3] at h
        simp only [cond_true, cond_false, Bool.and_eq_true, beq_iff_eq] at h
        omega
    · rw [h1, h2] at h
      simp only [cond_true, cond_false, Bool.and_eq_true, beq_iff_eq] at h
      omega
  · rw [h1] at h
    simp only [cond_true, Bool.and_eq_true, beq_iff_eq] at h
    omega

theorem qng {m : Nat} (h1 : 2 ≤ m) (h2 : m ≤ 5) : shlS 1 (W64 ((m : Int) - 1)) = some ((2 ^ (m - 1) : Nat) : Int) ∧ shlS 1 (IntKind.wrap .u64 (W64 ((m : Int) - 1))) = some ((2 ^ (m - 1) : Nat) : Int) := by
  have : m = 2 ∨ m = 3 ∨ m = 4 ∨ m = 5 := by omega
  rcases this with rfl | rfl | rfl | rfl <;> exact ⟨by decide, by decide⟩

theorem qnF {c : qD} (hc : qjm c) (hm : 2 ≤ c.Pins.length) (hm5 : c.Pins.length ≤ 5) : Ev (fun n => qdW n c) (kindB c) := by
  have hl := hc.Pins.len
  have hL : Ev (fun n => qaK c n 0 0) (((clkN c.Pins c.Pins.length : Nat) : Int), (c.Pins.length : Int)) := by
    refine loopF (Lf := qaK c) (S := fun j => ((clkN c.Pins j : Nat) : Int)) (len := c.Pins.length) (fun n => ?_) (fun j hj X hX => ?_)
    · simp only [qaK, qw (Nat.le_refl _), cond_false]
    · have hn : clkN c.Pins j ≤ j := qea
      simp only [qaK, qv hj, cond_true, qal hj, Option.bind_some, qr (show j < 9223372036854775807 by omega), qr (show clkN c.Pins j < 9223372036854775807 by omega)]
      have hck : clkN c.Pins (j + 1) = clkN c.Pins j + (bif (gt c.Pins j).Clock then 1 else 0) := rfl
      rw [hck] at hX
      cases hc : (gt c.Pins j).Clock
      · rw [hc] at hX; exact Ev.ff rfl hX
      · rw [hc] at hX; exact Ev.tt rfl hX
  unfold qdW kindB
  refine Ev.bind hL ?_
  simp only [qb4, qbw, Option.bind_some, (qng hm hm5).1]
  have hal := hc.Arcs.len
  refine Ev.iff (fun _ => ?_) (fun _ => Ev.iff (fun _ => ?_) (fun _ => Ev.iff (fun _ => ?_) (fun _ => .done)))
  · exact Ev.andP fun _ => Ev.andP fun _ => Ev.last (qed hc.Truth.len)
  · exact Ev.andP fun _ => Ev.andP fun _ => Ev.bind (qky hal) (Ev.andP fun _ => Ev.bind (qky hal) (Ev.bind (qky hal) .done))
  · exact Ev.andP fun _ => Ev.andP fun _ => Ev.and (qky hal) fun _ => Ev.and (qky hal) fun _ => Ev.bind (qky hal) .done

def cellB (c : qD) : Bool :=
  nameB c.Name && (pinsB c.Pins && ((allN (fun j => arcI c.Pins (gt c.Arcs j) && newArc c.Arcs j) c.Arcs.length && decide (c.Arcs.length ≤ 8)) && (inI c.Leak 0 100000 && (inI c.Energy 0 100000 && kindB c))))

theorem qpa {c : qD} (hc : qjm c) : Ev (fun n => qhj n c) (cellB c) := by
  simp only [qhj, qmp hc.Name, qdJ, Option.bind_some]
  unfold cellB
  refine Ev.andP fun _ => Ev.and (qon hc.Pins) fun hp => ?_
  obtain ⟨⟨hm, hm5⟩, _⟩ := qhN hp
  exact Ev.and (qnN hc.Pins hc.Arcs hm) fun _ => Ev.andP fun _ => Ev.andP fun _ => Ev.last (qnF hc hm hm5)

theorem qn3 {c : qD} (hc : qjm c) : Ev (fun n => qhb n c) (cellB c) := by
  have hal := hc.Arcs.len
  have htl := hc.Truth.len
  have e : cellB c = ((pinsB c.Pins && (nameB c.Name && (decide (c.Arcs.length ≤ 8) && (inI c.Leak 0 100000 && inI c.Energy 0 100000)))) && (allN (fun j => arcS c.Pins (gt c.Arcs j) && newArc c.Arcs j) c.Arcs.length && kindB c)) := by
    unfold cellB
    cases hk : kindB c
    · simp
    · cases hp : pinsB c.Pins
      · simp
      · rw [qf5 (fun j _ => by rw [qpL hp (qmw hk)])]
        cases nameB c.Name <;> cases allN (fun j => arcS c.Pins (gt c.Arcs j) && newArc c.Arcs j) c.Arcs.length <;> cases decide (c.Arcs.length ≤ 8) <;> cases inI c.Leak 0 100000 <;> cases inI c.Energy 0 100000 <;> rfl
  rw [e]
  unfold qhb
  refine Ev.bind (qn7 hc.Pins) ?_
  cases hp : pinsB c.Pins
  · exact .done
  · obtain ⟨⟨hm, hm5⟩, _⟩ := qhN hp
    simp only [cond_true, Bool.true_and, Bool.not_true, cond_false]
    refine Ev.guardB ?_ (fun _ => ?_)
    · simp only [qdO, Option.bind_some, qby]
      refine Ev.orB (qjV hc.Name) fun _ => ?_
      rw [show decide ((c.Arcs.length : Int) > 8) = !decide (c.Arcs.length ≤ 8) by rw [Bool.eq_iff_iff]; simp; omega, qby]
      exact Ev.orBP fun _ => Ev.orBP fun _ => .done
    · have hL2 : ∀ j, j < c.Arcs.length → Ev (fun n => qcg c (j : Int) (gt c.Arcs j) n 0) (bif newArc c.Arcs j then .nxt (j : Int) else .ret false) := by
        intro j hj
        refine qeE ?_ (fun i hi X hX => Ev.succ ?_)
        · exact Ev.succ (by simp only [qcg, qw (Nat.le_refl _), cond_false]; exact .done)
        · simp only [qcg, qv hi, cond_true, qal (show i < c.Arcs.length by omega), Option.bind_some, qr (show i < 9223372036854775807 by omega)]
          unfold sameArc
          cases ((gt c.Arcs i).Kind == (gt c.Arcs j).Kind)
          · exact hX
          · cases ((gt c.Arcs i).From == (gt c.Arcs j).From)
            · exact hX
            · cases ((gt c.Arcs i).To == (gt c.Arcs j).To)
              · exact hX
              · exact .done
      have hL1 : Ev (fun n => qdm c n 0) (bif allN (fun j => arcS c.Pins (gt c.Arcs j) && newArc c.Arcs j) c.Arcs.length then .nxt (c.Arcs.length : Int) else .ret false) := by
        refine qeE ?_ (fun j hj X hX => Ev.succ ?_)
        · exact Ev.succ (by simp only [qdm, qw (Nat.le_refl _), cond_false]; exact .done)
        · simp only [qdm, qv hj, cond_true, qal hj, Option.bind_some, qr (show j < 9223372036854775807 by omega)]
          refine Ev.chk (qpb hc.Pins (qiu hc.Arcs hj) hm) fun _ => Ev.bind (hL2 j hj) ?_
          cases newArc c.Arcs j
          · exact .done
          · exact hX
      have hL3 : Ev (fun n => qdi c n 0) (bif (c.Truth.all fun x => inI x 0 1) then .nxt (c.Truth.length : Int) else .ret false) :=
        qi0 (fun n => by simp only [qdi, qw (Nat.le_refl _), cond_false]) (fun j hj X hX => by
          simp only [qdi, qv hj, cond_true, qg6 hj, Option.bind_some, qdO, qr (show j < 9223372036854775807 by omega), qby]
          exact Ev.okP1 fun _ => hX)
      refine Ev.bind hL1 ?_
      cases hA : allN (fun j => arcS c.Pins (gt c.Arcs j) && newArc c.Arcs j) c.Arcs.length
      · exact .done
      · have hk : ∀ j, j < c.Arcs.length → 1 ≤ (gt c.Arcs j).Kind ∧ (gt c.Arcs j).Kind ≤ 5 := fun j hj => by
          have := qaQ.1 hA j hj
          rw [Bool.and_eq_true] at this
          exact qmG this.1
        simp only [cond_true, Bool.true_and]
        refine Ev.bind (qnI hc.Arcs hk) ?_
        simp only [(qng hm hm5).2, Option.bind_some,
          show idx (vecC (fun k => kindN c.Arcs k c.Arcs.length) 6) (1 : Int) = some ((kindN c.Arcs 1 c.Arcs.length : Nat) : Int) from qhV (k := 1) (by omega),
          show idx (vecC (fun k => kindN c.Arcs k c.Arcs.length) 6) (2 : Int) = some ((kindN c.Arcs 2 c.Arcs.length : Nat) : Int) from qhV (k := 2) (by omega),
          show idx (vecC (fun k => kindN c.Arcs k c.Arcs.length) 6) (3 : Int) = some ((kindN c.Arcs 3 c.Arcs.length : Nat) : Int) from qhV (k := 3) (by omega), qmE, qop]
        unfold kindB
        refine Ev.iff (fun _ => ?_) (fun _ => Ev.iff (fun _ => ?_) (fun _ => Ev.iff (fun _ => ?_) (fun _ => .done)))
        · refine Ev.bind hL3 ?_
          cases (c.Truth.all fun x => inI x 0 1)
          · exact Ev.now (by simp)
          · exact (Ev.andP (fun _ => .done)).cast (by rw [Bool.and_true])
        · refine (Ev.andP fun _ => Ev.andP fun _ => Ev.andP fun _ => .done).cast ?_
          cases (((clkN c.Pins c.Pins.length : Nat) : Int) == 1) <;> cases ((c.Truth.length : Int) == 0) <;> cases hasB c.Arcs ((1 : Nat) : Int) <;> cases hasB c.Arcs ((2 : Nat) : Int) <;> cases hasB c.Arcs ((3 : Nat) : Int) <;> rfl
        · refine (Ev.andP fun _ => Ev.andP fun _ => Ev.andP fun _ => Ev.andP fun _ => .done).cast ?_
          cases (((clkN c.Pins c.Pins.length : Nat) : Int) == 1) <;> cases ((c.Truth.length : Int) == 0) <;> cases hasB c.Arcs ((1 : Nat) : Int) <;> cases hasB c.Arcs ((2 : Nat) : Int) <;> cases hasB c.Arcs ((3 : Nat) : Int) <;> rfl

/-! ### Libraries -/

def libB (l : qt) : Bool := l.Cells.all cellB && (decide (l.Cells.length ≤ 8) && namesB (l.Cells.map qD.Name))

theorem qmV {l : qt} (h : qf6 l) : Ev (fun n => qfp n l) (libB l) := by
  have hl := h.Cells.len
  have hL : Ev (fun n => qbN l n ([] : List ByteArray) 0) (bif allN (fun j => cellB (gt l.Cells j)) l.Cells.length then .nxt (l.Cells.map qD.Name, (l.Cells.length : Int)) else .ret false) := by
    refine loopN (Lf := qbN l) (S := fun j => (l.Cells.take j).map qD.Name) (fun j => cellB (gt l.Cells j)) (fun n => ?_) (fun j hj hp X hX => ?_)
    · simp only [qbN, qw (Nat.le_refl _), cond_false, List.take_length]
    · simp only [qbN, qv hj, cond_true, qal hj, Option.bind_some, qio hj hl, qeQ (g := qD.Name) hj, qr (show j < 9223372036854775807 by omega)]
      exact Ev.chk1 (qpa (qiu h.Cells hj)) hX
  unfold qfp libB
  rw [qhq]
  refine Ev.bind hL ?_
  cases allN (fun j => cellB (gt l.Cells j)) l.Cells.length
  · exact .done
  · simp only [cond_true, Bool.true_and, show decide ((l.Cells.length : Int) ≤ 8) = decide (l.Cells.length ≤ 8) from qiC (k := 8)]
    exact Ev.andP fun _ => Ev.last (qhf (qjs h.Cells (fun x hx => hx.Name)))
end Go.Fw


namespace Go.Fw
open Go
set_option maxRecDepth 100000

theorem qnO {c : qD} (h : cellB c = true) : nameB c.Name = true := by
  unfold cellB at h; rw [Bool.and_eq_true] at h; exact h.1
theorem qli {c : qD} (h : cellB c = true) : pinsB c.Pins = true := by
  unfold cellB at h; simp only [Bool.and_eq_true] at h; exact h.2.1

theorem qmd {l : qt} (h : qf6 l) : Ev (fun n => qfs n l) (libB l) := by
  have hl := h.Cells.len
  have hL2 : ∀ j, j < l.Cells.length → Ev (fun n => qcc l (j : Int) n 0) (bif allN (neB (l.Cells.map qD.Name) j) j then .nxt (j : Int) else .ret false) := by
    intro j hj
    refine qeE ?_ (fun i hi X hX => Ev.succ ?_)
    · exact Ev.succ (by simp only [qcc, qw (Nat.le_refl _), cond_false]; exact .done)
    · simp only [qcc, qv hi, cond_true, qal (show i < l.Cells.length by omega), qal hj, Option.bind_some, qfS, qr (show i < 9223372036854775807 by omega)]
      unfold neB
      rw [qhB (g := qD.Name) (show i < l.Cells.length by omega), qhB (g := qD.Name) hj]
      exact Ev.chkP1 (fun _ => hX)
  have hL1 : Ev (fun n => qce l n 0) (bif allN (fun j => cellB (gt l.Cells j) && allN (neB (l.Cells.map qD.Name) j) j) l.Cells.length then .nxt (l.Cells.length : Int) else .ret false) := by
    refine qeE ?_ (fun j hj X hX => Ev.succ ?_)
    · exact Ev.succ (by simp only [qce, qw (Nat.le_refl _), cond_false]; exact .done)
    · simp only [qce, qv hj, cond_true, qal hj, Option.bind_some, qr (show j < 9223372036854775807 by omega)]
      refine Ev.chk (qn3 (qiu h.Cells hj)) fun _ => Ev.bind (hL2 j hj) ?_
      cases allN (neB (l.Cells.map qD.Name) j) j
      · exact .done
      · exact hX
  have e : libB l = (allN (fun j => cellB (gt l.Cells j) && allN (neB (l.Cells.map qD.Name) j) j) l.Cells.length && decide (l.Cells.length ≤ 8)) := by
    unfold libB namesB
    rw [qhq, List.length_map, Bool.and_comm (decide (l.Cells.length ≤ 8)), ← Bool.and_assoc, ← qhU]
    congr 1
    refine qf5 (fun j hj => ?_)
    rw [qhB (g := qD.Name) hj]
    cases hc : cellB (gt l.Cells j)
    · rfl
    · rw [qnO hc]; rfl
  rw [e]
  unfold qfs
  refine Ev.bind hL1 ?_
  cases allN (fun j => cellB (gt l.Cells j) && allN (neB (l.Cells.map qD.Name) j) j) l.Cells.length
  · exact .done
  · refine Ev.now ?_
    show some (decide ((l.Cells.length : Int) ≤ ((8 : Nat) : Int))) = some (true && decide (l.Cells.length ≤ 8))
    rw [qiC, Bool.true_and]

theorem qiz {c c' : Nat → Nat} {m : Nat} {x : Int} (h0 : 0 ≤ x) (h1 : x < m) (hc : c x.toNat < 9223372036854775807) (he : ∀ k, k < m → c' k = c k + (bif x == (k : Int) then 1 else 0)) :
    idx (vecC c m) x = some (c x.toNat : Int) ∧ setS (vecC c m) x (W64 ((c x.toNat : Int) + 1)) = vecC c' m := by
  have ex : x = (x.toNat : Int) := qjS h0
  have e1 := qhV (c := c) (m := m) (k := x.toNat) (by omega)
  have e2 := qmm (c := c) (m := m) (k := x.toNat) hc
  rw [← ex] at e1 e2
  refine ⟨e1, e2.trans (qhO (fun k hk => ?_))⟩
  rw [he k hk]
  congr 2
  rw [Bool.eq_iff_iff]; simp; omega

/-! ### Parts of a design -/

def netB (d : qk) (x : Int) : Bool := inI x 0 ((d.Nets.length : Int) - 1)
theorem qnm {n : Nat} {d : qk} {x : Int} (hl : d.Nets.length ≤ 1048576) : qcJ n d x = some (netB d x) := by
  simp only [qcJ, qeZ, Option.bind_some, qdJ, qbK (show d.Nets.length ≤ 9223372036854775807 by omega)]; rfl
theorem qmq {n : Nat} {d : qk} {x : Int} (hl : d.Nets.length ≤ 1048576) : qam n x 0 (W64 ((d.Nets.length : Int) - 1)) = some (netB d x) := by
  rw [qdO, qbK (show d.Nets.length ≤ 9223372036854775807 by omega)]; rfl

def hasNamesB (d : qk) : Bool := (decide (d.Instances.length ≤ 14) && (decide (d.Nets.length ≤ 30) && decide (d.Ports.length ≤ 8))) && (namesB (d.Instances.map qp.Name) && (namesB d.Nets && namesB (d.Ports.map qaj.Name)))

theorem qnf {d : qk} (h : qhF d) : Ev (fun n => qdf n d) (hasNamesB d) := by
  have hli := h.Instances.len
  have hlp := h.Ports.len
  have hL1 : Ev (fun n => qaJ d n ([] : List ByteArray) 0) (d.Instances.map qp.Name, (d.Instances.length : Int)) := by
    refine loopF (Lf := qaJ d) (S := fun j => (d.Instances.take j).map qp.Name) (len := d.Instances.length) (fun n => ?_) (fun j hj X hX => ?_)
    · simp only [qaJ, qw (Nat.le_refl _), cond_false, List.take_length]
    · simpa only [qaJ, qv hj, cond_true, qal hj, Option.bind_some, qio hj hli, qeQ (g := qp.Name) hj, qr (show j < 9223372036854775807 by omega)] using hX
  have hL2 : Ev (fun n => qaI d n ([] : List ByteArray) 0) (d.Ports.map qaj.Name, (d.Ports.length : Int)) := by
    refine loopF (Lf := qaI d) (S := fun j => (d.Ports.take j).map qaj.Name) (len := d.Ports.length) (fun n => ?_) (fun j hj X hX => ?_)
    · simp only [qaI, qw (Nat.le_refl _), cond_false, List.take_length]
    · simpa only [qaI, qv hj, cond_true, qal hj, Option.bind_some, qio hj hlp, qeQ (g := qaj.Name) hj, qr (show j < 9223372036854775807 by omega)] using hX
  unfold qdf hasNamesB
  refine Ev.bind hL1 (Ev.bind hL2 ?_)
  simp only [List.length_map]
  rw [show decide ((d.Instances.length : Int) ≤ 14) = decide (d.Instances.length ≤ 14) from qiC (k := 14), show decide ((d.Nets.length : Int) ≤ 30) = decide (d.Nets.length ≤ 30) from qiC (k := 30), show decide ((d.Ports.length : Int) ≤ 8) = decide (d.Ports.length ≤ 8) from qiC (k := 8)]
  rw [Bool.and_assoc, Bool.and_assoc]
  exact Ev.andP fun _ => Ev.andP fun _ => Ev.andP fun _ => Ev.and (qhf (qjs h.Instances (fun x hx => hx.Name))) fun _ => Ev.and (qhf h.Nets) fun _ => Ev.last (qhf (qjs h.Ports (fun x hx => hx.Name)))

def instB (l : qt) (d : qk) (x : qp) : Bool := inI x.Cell 0 ((l.Cells.length : Int) - 1) && (((x.Nets.length : Int) == ((gt l.Cells x.Cell.toNat).Pins.length : Int)) && x.Nets.all (netB d))

theorem qmc {d : qk} {l : qt} {x : qp} (hn : d.Nets.length ≤ 1048576) (hc : l.Cells.length ≤ 1048576) (hx : x.Nets.length ≤ 1048576) : Ev (fun n => qcK n d l x) (instB l d x) := by
  simp only [qcK, qd1, Option.bind_some, qdJ, qbK (show l.Cells.length ≤ 9223372036854775807 by omega)]
  unfold instB
  refine Ev.andP fun hI => ?_
  rw [qcP] at hI
  rw [qft hI.1 (by omega)]
  simp only [Option.bind_some]
  refine Ev.andP fun _ => Ev.bind (b := x.Nets.any fun y => !netB d y) ?_ (Ev.now (by rw [qld]))
  unfold qao
  exact Ev.bind (b := ixL (fun y => !netB d y) x.Nets) (qeI (fin := (x.Nets.length : Int)) (Lf := qJ x.Nets d) (pf := fun n y => qch n y d) (fun y _ => ⟨0, fun n _ => by simp only [qch, qnm hn, Option.bind_some]⟩)
      (fun n => by simp only [qJ, qw (Nat.le_refl _), cond_false])
      (fun n j y hx => by
        have hj := (List.getElem?_eq_some_iff.1 hx).1
        simp only [qJ, qv hj, cond_true, qaS hx, Option.bind_some, qr (show j < 9223372036854775807 by omega)])
      (fun n => by unfold qax; congr 1; funext o; cases o <;> rfl)) (Ev.now (by rw [qid]))

def portB (d : qk) (p : qaj) : Bool := inI p.Dir 1 2 && netB d p.Net
theorem qqX {x : Int} : inI x 1 2 = ((x == 1) || (x == 2)) := by
  unfold inI; rw [Bool.eq_iff_iff]; simp; omega

/-- The net that an instance drives. -/
def lastN (x : qp) : Int := at0 x.Nets (x.Nets.length - 1)
theorem qnk {x : qp} (h1 : 1 ≤ x.Nets.length) (h2 : x.Nets.length ≤ 1048576) : idx x.Nets (W64 ((x.Nets.length : Int) - 1)) = some (lastN x) := by
  rw [qbK (by omega), show ((x.Nets.length : Int) - 1) = ((x.Nets.length - 1 : Nat) : Int) by omega, qbm (by omega)]; rfl
theorem qoL {d : qk} {x : qp} (h1 : 1 ≤ x.Nets.length) (h : x.Nets.all (netB d) = true) : 0 ≤ lastN x ∧ lastN x < d.Nets.length := by
  rw [qfU (d := 0), qaQ] at h
  have := h (x.Nets.length - 1) (by omega)
  unfold netB at this
  rw [qcP] at this
  unfold lastN at0
  omega
theorem qlv {l : qt} {d : qk} {x : qp} (hl : libB l = true) (h : instB l d x = true) : 1 ≤ x.Nets.length ∧ 0 ≤ lastN x ∧ lastN x < d.Nets.length := by
  unfold instB at h
  simp only [Bool.and_eq_true, qcP, beq_iff_eq] at h
  obtain ⟨h1, h2, h3⟩ := h
  unfold libB at hl
  simp only [Bool.and_eq_true] at hl
  have hc := hl.1
  rw [qhq, qaQ] at hc
  have := qhN (qli (hc x.Cell.toNat (by omega)))
  have h4 : 1 ≤ x.Nets.length := by omega
  exact ⟨h4, qoL h4 h3⟩

def drvI (d : qk) (k j : Nat) : Nat := cntP (fun i => lastN (gt d.Instances i) == (k : Int)) j
def drvP (d : qk) (k j : Nat) : Nat := cntP (fun i => ((gt d.Ports i).Dir == 1) && ((gt d.Ports i).Net == (k : Int))) j
def drvB (d : qk) : Bool := allN (fun k => ((drvI d k d.Instances.length + drvP d k d.Ports.length : Nat) : Int) == 1) d.Nets.length
def designB (l : qt) (d : qk) : Bool := (libB l && hasNamesB d) && (d.Instances.all (instB l d) && (d.Ports.all (portB d) && drvB d))

theorem qkq {d : qk} {k j : Nat} : drvI d k (j + 1) = drvI d k j + (bif lastN (gt d.Instances j) == (k : Int) then 1 else 0) := rfl
theorem qjr {d : qk} {k j : Nat} : drvP d k (j + 1) = drvP d k j + (bif ((gt d.Ports j).Dir == 1) && ((gt d.Ports j).Net == (k : Int)) then 1 else 0) := rfl

theorem qnh {l : qt} {d : qk} (h : qf6 l) (hd : qhF d) : Ev (fun n => qfX n l d) (designB l d) := by
  have hli := hd.Instances.len
  have hlp := hd.Ports.len
  have hln := hd.Nets.len
  have hlc := h.Cells.len
  unfold qfX designB
  refine Ev.guardB (Ev.or (qmV h) fun _ => Ev.neg (qnf hd)) fun hb => ?_
  rw [Bool.and_eq_true] at hb
  rw [qjt (m := d.Nets.length) (by omega)]
  simp only [Option.bind_some]
  have hL1 : Ev (fun n => qb2 l d n (vecC (fun _ => 0) d.Nets.length) 0) (bif allN (fun j => instB l d (gt d.Instances j)) d.Instances.length then .nxt (vecC (fun k => drvI d k d.Instances.length) d.Nets.length, (d.Instances.length : Int)) else .ret false) := by
    refine loopN (Lf := qb2 l d) (S := fun j => vecC (fun k => drvI d k j) d.Nets.length) (fun j => instB l d (gt d.Instances j)) (fun n => ?_) (fun j hj hp X hX => ?_)
    · simp only [qb2, qw (Nat.le_refl _), cond_false]
    · simp only [qb2, qv hj, cond_true, qal hj, Option.bind_some, qr (show j < 9223372036854775807 by omega)]
      have hxl := (qiu hd.Instances hj).Nets.len
      refine Ev.chk1 (qmc hln hlc hxl) fun hi => ?_
      obtain ⟨h1, h2, h3⟩ := qlv hb.1 hi
      have hc : drvI d (lastN (gt d.Instances j)).toNat j ≤ j := qea
      obtain ⟨e1, e2⟩ := qiz (c := fun k => drvI d k j) (c' := fun k => drvI d k (j + 1)) h2 h3 (by show drvI _ _ _ < _; omega) (fun k _ => qkq)
      simp only [qnk h1 hxl, Option.bind_some, e1, e2]
      exact hX hi
  have hL2 : Ev (fun n => qbB d n (vecC (fun k => drvI d k d.Instances.length) d.Nets.length) 0) (bif allN (fun j => portB d (gt d.Ports j)) d.Ports.length then .nxt (vecC (fun k => drvI d k d.Instances.length + drvP d k d.Ports.length) d.Nets.length, (d.Ports.length : Int)) else .ret false) := by
    refine loopN (Lf := qbB d) (S := fun j => vecC (fun k => drvI d k d.Instances.length + drvP d k j) d.Nets.length) (fun j => portB d (gt d.Ports j)) (fun n => ?_) (fun j hj hp X hX => ?_)
    · simp only [qbB, qw (Nat.le_refl _), cond_false]
    · simp only [qbB, qv hj, cond_true, qal hj, Option.bind_some, qnm hln, bne, qr (show j < 9223372036854775807 by omega)]
      refine Ev.chkT1 ?_ fun hi => ?_
      · unfold portB
        rw [qqX]
        cases ((gt d.Ports j).Dir == 1) <;> cases ((gt d.Ports j).Dir == 2) <;> exact .done
      · have hX := hX hi
        unfold portB netB at hi
        simp only [Bool.and_eq_true, qcP] at hi
        have hc1 : drvI d (gt d.Ports j).Net.toNat d.Instances.length ≤ d.Instances.length := qea
        have hc2 : drvP d (gt d.Ports j).Net.toNat j ≤ j := qea
        cases h1 : ((gt d.Ports j).Dir == 1)
        · have : vecC (fun k => drvI d k d.Instances.length + drvP d k (j + 1)) d.Nets.length = vecC (fun k => drvI d k d.Instances.length + drvP d k j) d.Nets.length := by
            refine qhO (fun k _ => ?_)
            rw [qjr, h1]; rfl
          rw [this] at hX
          exact hX
        · obtain ⟨e1, e2⟩ := qiz (c := fun k => drvI d k d.Instances.length + drvP d k j) (c' := fun k => drvI d k d.Instances.length + drvP d k (j + 1)) (x := (gt d.Ports j).Net) (m := d.Nets.length) hi.2.1 (by omega) (by show drvI _ _ _ + drvP _ _ _ < _; omega) (fun k _ => by rw [qjr, h1, Bool.true_and]; omega)
          simp only [cond_true, Option.bind_some, e1, e2]
          exact hX
  rw [qhq, qhq]
  refine Ev.bind hL1 ?_
  cases allN (fun j => instB l d (gt d.Instances j)) d.Instances.length
  · exact .done
  · refine Ev.bind hL2 ?_
    cases allN (fun j => portB d (gt d.Ports j)) d.Ports.length
    · exact .done
    · simp only [cond_true, Bool.true_and]
      unfold qbb
      refine Ev.bind (b := (vecC (fun k => drvI d k d.Instances.length + drvP d k d.Ports.length) d.Nets.length).any fun x => !(x == 1)) (Ev.bind (b := ixL (fun x => !(x == 1)) (vecC (fun k => drvI d k d.Instances.length + drvP d k d.Ports.length) d.Nets.length)) (qeI (fin := (((vecC (fun k => drvI d k d.Instances.length + drvP d k d.Ports.length) d.Nets.length).length : Nat) : Int)) (Lf := qS (vecC (fun k => drvI d k d.Instances.length + drvP d k d.Ports.length) d.Nets.length)) (pf := fun n y => qf4 n y) (fun y _ => .done)
        (fun n => by simp only [qS, qw (Nat.le_refl _), cond_false])
        (fun n j y hx => by
          have hj := (List.getElem?_eq_some_iff.1 hx).1
          have : j < d.Nets.length := by rw [qi2] at hj; exact hj
          simp only [qS, qv hj, cond_true, qaS hx, Option.bind_some, qr (show j < 9223372036854775807 by omega)])
        (fun n => by unfold qbp; congr 1; funext o; cases o <;> rfl)) (Ev.now (by rw [qid]))) (Ev.now ?_)
      rw [qld, qfU (d := 0), qi2]
      unfold drvB
      congr 1
      exact qf5 (fun k hk => by
        have := qnA (c := fun k => drvI d k d.Instances.length + drvP d k d.Ports.length) hk
        unfold at0 at this
        rw [this])

theorem qnz {l : qt} {d : qk} (h : qf6 l) (hd : qhF d) : Ev (fun n => qfQ n l d) (d.Instances.all (instB l d) && d.Ports.all (portB d)) := by
  have hli := hd.Instances.len
  have hlp := hd.Ports.len
  have hln := hd.Nets.len
  have hlc := h.Cells.len
  have hL2 : ∀ x : qp, x.Nets.length ≤ 1048576 → Ev (fun n => qcv d x n 0) (bif x.Nets.all (netB d) then .nxt (x.Nets.length : Int) else .ret false) := fun x hx =>
    qi0 (fun n => by simp only [qcv, qw (Nat.le_refl _), cond_false]) (fun j hj X hX => by
      simp only [qcv, qv hj, cond_true, qg6 hj, Option.bind_some, qmq hln, qr (show j < 9223372036854775807 by omega), qby]
      exact Ev.okP1 fun _ => hX)
  have hL1 : Ev (fun n => qcA l d n 0) (bif allN (fun j => instB l d (gt d.Instances j)) d.Instances.length then .nxt (d.Instances.length : Int) else .ret false) := by
    refine qeE ?_ (fun j hj X hX => Ev.succ ?_)
    · exact Ev.succ (by simp only [qcA, qw (Nat.le_refl _), cond_false]; exact .done)
    · simp only [qcA, qv hj, cond_true, qal hj, Option.bind_some, qdO, qbK (show l.Cells.length ≤ 9223372036854775807 by omega), qr (show j < 9223372036854775807 by omega), bne]
      have hxl := (qiu hd.Instances hj).Nets.len
      unfold instB
      rw [← Bool.and_assoc]
      refine Ev.chkT ?_ fun _ => Ev.bind (hL2 _ hxl) ?_
      · simp only [qby]
        refine Ev.orBP fun hI => ?_
        rw [qcP] at hI
        rw [qft hI.1 (by omega)]
        exact .done
      · cases (gt d.Instances j).Nets.all (netB d)
        · exact .done
        · exact hX
  have hL3 : Ev (fun n => qcy d n 0) (bif allN (fun j => portB d (gt d.Ports j)) d.Ports.length then .nxt (d.Ports.length : Int) else .ret false) := by
    refine qeE ?_ (fun j hj X hX => Ev.succ ?_)
    · exact Ev.succ (by simp only [qcy, qw (Nat.le_refl _), cond_false]; exact .done)
    · simp only [qcy, qv hj, cond_true, qal hj, Option.bind_some, qmq hln, qr (show j < 9223372036854775807 by omega)]
      simp only [qdO, Option.bind_some, qby]
      unfold portB
      exact Ev.okP fun _ => Ev.okP1 fun _ => hX
  unfold qfQ
  rw [qhq, qhq]
  refine Ev.bind hL1 ?_
  cases allN (fun j => instB l d (gt d.Instances j)) d.Instances.length
  · exact .done
  · refine Ev.bind hL3 ?_
    cases allN (fun j => portB d (gt d.Ports j)) d.Ports.length <;> exact .done

theorem qka {l : qt} {d : qk} (h : qf6 l) (hd : qhF d) : Ev (fun n => qfe n l d) (designB l d) := by
  have hli := hd.Instances.len
  have hlp := hd.Ports.len
  have hln := hd.Nets.len
  have hlc := h.Cells.len
  have e : designB l d = ((libB l && (decide (d.Instances.length ≤ 14) && (decide (d.Nets.length ≤ 30) && (decide (d.Ports.length ≤ 8) && (d.Instances.all (instB l d) && d.Ports.all (portB d)))))) && ((namesB (d.Instances.map qp.Name) && (namesB (d.Ports.map qaj.Name) && namesB d.Nets)) && drvB d)) := by
    unfold designB hasNamesB
    generalize libB l = a1
    generalize decide (d.Instances.length ≤ 14) = a2
    generalize decide (d.Nets.length ≤ 30) = a3
    generalize decide (d.Ports.length ≤ 8) = a4
    generalize d.Instances.all (instB l d) = a5
    generalize d.Ports.all (portB d) = a6
    generalize namesB (d.Instances.map qp.Name) = a7
    generalize namesB (d.Ports.map qaj.Name) = a8
    generalize namesB d.Nets = a9
    generalize drvB d = a10
    rw [Bool.eq_iff_iff]
    simp only [Bool.and_eq_true]
    constructor
    · rintro ⟨⟨h1, ⟨h2, h3, h4⟩, h7, h9, h8⟩, h5, h6, h10⟩
      exact ⟨⟨h1, h2, h3, h4, h5, h6⟩, ⟨h7, h8, h9⟩, h10⟩
    · rintro ⟨⟨h1, h2, h3, h4, h5, h6⟩, ⟨h7, h8, h9⟩, h10⟩
      exact ⟨⟨h1, ⟨h2, h3, h4⟩, h7, h9, h8⟩, h5, h6, h10⟩
  rw [e]
  unfold qfe
  refine Ev.guardB ?_ fun hb => ?_
  · refine Ev.or (qmd h) fun _ => ?_
    rw [show decide ((d.Instances.length : Int) > 14) = !decide (d.Instances.length ≤ 14) by rw [Bool.eq_iff_iff]; simp; omega, show decide ((d.Nets.length : Int) > 30) = !decide (d.Nets.length ≤ 30) by rw [Bool.eq_iff_iff]; simp; omega, show decide ((d.Ports.length : Int) > 8) = !decide (d.Ports.length ≤ 8) by rw [Bool.eq_iff_iff]; simp; omega]
    simp only [qby]
    exact Ev.orBP fun _ => Ev.orBP fun _ => Ev.orBP fun _ => Ev.neg (qnz h hd)
  · simp only [Bool.and_eq_true] at hb
    obtain ⟨hlib, _, _, _, hI, hP⟩ := hb
    rw [qhq, qaQ] at hI hP
    have hL1 : Ev (fun n => qbY d n ([] : List ByteArray) 0) (d.Instances.map qp.Name, (d.Instances.length : Int)) := by
      refine loopF (Lf := qbY d) (S := fun j => (d.Instances.take j).map qp.Name) (len := d.Instances.length) (fun n => ?_) (fun j hj X hX => ?_)
      · simp only [qbY, qw (Nat.le_refl _), cond_false, List.take_length]
      · simpa only [qbY, qv hj, cond_true, qal hj, Option.bind_some, qio hj hli, qeQ (g := qp.Name) hj, qr (show j < 9223372036854775807 by omega)] using hX
    have hL2 : Ev (fun n => qb1 d n ([] : List ByteArray) 0) (d.Ports.map qaj.Name, (d.Ports.length : Int)) := by
      refine loopF (Lf := qb1 d) (S := fun j => (d.Ports.take j).map qaj.Name) (len := d.Ports.length) (fun n => ?_) (fun j hj X hX => ?_)
      · simp only [qb1, qw (Nat.le_refl _), cond_false, List.take_length]
      · simpa only [qb1, qv hj, cond_true, qal hj, Option.bind_some, qio hj hlp, qeQ (g := qaj.Name) hj, qr (show j < 9223372036854775807 by omega)] using hX
    have hL3 : Ev (fun n => qbX d n (vecC (fun _ => 0) d.Nets.length) 0) (vecC (fun k => drvI d k d.Instances.length) d.Nets.length, (d.Instances.length : Int)) := by
      refine loopF (Lf := qbX d) (S := fun j => vecC (fun k => drvI d k j) d.Nets.length) (len := d.Instances.length) (fun n => ?_) (fun j hj X hX => ?_)
      · simp only [qbX, qw (Nat.le_refl _), cond_false]
      · have hxl := (qiu hd.Instances hj).Nets.len
        obtain ⟨h1, h2, h3⟩ := qlv hlib (hI j hj)
        have hc : drvI d (lastN (gt d.Instances j)).toNat j ≤ j := qea
        obtain ⟨e1, e2⟩ := qiz (c := fun k => drvI d k j) (c' := fun k => drvI d k (j + 1)) h2 h3 (by show drvI _ _ _ < _; omega) (fun k _ => qkq)
        simpa only [qbX, qv hj, cond_true, qal hj, Option.bind_some, qr (show j < 9223372036854775807 by omega), qnk h1 hxl, e1, e2] using hX
    have hL4 : Ev (fun n => qbz d n (vecC (fun k => drvI d k d.Instances.length) d.Nets.length) 0) (vecC (fun k => drvI d k d.Instances.length + drvP d k d.Ports.length) d.Nets.length, (d.Ports.length : Int)) := by
      refine loopF (Lf := qbz d) (S := fun j => vecC (fun k => drvI d k d.Instances.length + drvP d k j) d.Nets.length) (len := d.Ports.length) (fun n => ?_) (fun j hj X hX => ?_)
      · simp only [qbz, qw (Nat.le_refl _), cond_false]
      · have hi := hP j hj
        unfold portB netB at hi
        simp only [Bool.and_eq_true, qcP] at hi
        have hc1 : drvI d (gt d.Ports j).Net.toNat d.Instances.length ≤ d.Instances.length := qea
        have hc2 : drvP d (gt d.Ports j).Net.toNat j ≤ j := qea
        simp only [qbz, qv hj, cond_true, qal hj, Option.bind_some, qr (show j < 9223372036854775807 by omega)]
        cases h1 : ((gt d.Ports j).Dir == 1)
        · have : vecC (fun k => drvI d k d.Instances.length + drvP d k (j + 1)) d.Nets.length = vecC (fun k => drvI d k d.Instances.length + drvP d k j) d.Nets.length := by
            refine qhO (fun k _ => ?_)
            rw [qjr, h1]; rfl
          rw [this] at hX
          exact hX
        · obtain ⟨e1, e2⟩ := qiz (c := fun k => drvI d k d.Instances.length + drvP d k j) (c' := fun k => drvI d k d.Instances.length + drvP d k (j + 1)) (x := (gt d.Ports j).Net) (m := d.Nets.length) hi.2.1 (by omega) (by show drvI _ _ _ + drvP _ _ _ < _; omega) (fun k _ => by rw [qjr, h1, Bool.true_and]; omega)
          simp only [cond_true, Option.bind_some, e1, e2]
          exact hX
    have hL5 : Ev (fun n => qcx (vecC (fun _ => 0) d.Nets.length) (vecC (fun k => drvI d k d.Instances.length + drvP d k d.Ports.length) d.Nets.length) n 0) (bif drvB d then .nxt (d.Nets.length : Int) else .ret false) := by
      refine qeE ?_ (fun j hj X hX => Ev.succ ?_)
      · exact Ev.succ (by simp only [qcx, qi2, qw (Nat.le_refl _), cond_false]; exact .done)
      · simp only [qcx, qi2, qv hj, cond_true, qhV hj, Option.bind_some, bne, qby, qr (show j < 9223372036854775807 by omega)]
        exact Ev.okP1 fun _ => hX
    refine Ev.bind hL1 (Ev.bind hL2 ?_)
    refine Ev.guardB (Ev.or (qi5 (qjs hd.Instances (fun x hx => hx.Name))) fun _ => Ev.or (qi5 (qjs hd.Ports (fun x hx => hx.Name))) fun _ => Ev.neg (qi5 hd.Nets)) fun _ => ?_
    rw [qjt (m := d.Nets.length) (by omega)]
    simp only [Option.bind_some]
    refine Ev.bind hL3 (Ev.bind hL4 (Ev.bind hL5 ?_))
    cases drvB d <;> exact .done
end Go.Fw


namespace Go.Fw
open Go
set_option maxRecDepth 100000

theorem qoA {m k : Nat} : decide ((m : Int) < (k : Int)) = !decide (k ≤ m) := by rw [Bool.eq_iff_iff]; simp
theorem qm6 {m k : Nat} : decide ((m : Int) > (k : Int)) = !decide (m ≤ k) := by rw [Bool.eq_iff_iff]; simp
/-! ### Wires -/

def treeB (w : qad) (j : Nat) : Bool := bif decide (j = 0) then (at0 w.Parent j == -1) && (at0 w.Res j == 0) else inI (at0 w.Parent j) 0 ((j : Int) - 1)
def wireB (w : qad) (s : Int) : Bool :=
  lenB w.Parent 1 8 && (((w.Res.length : Int) == (w.Parent.length : Int)) && (((w.Cap.length : Int) == (w.Parent.length : Int)) && (allN (treeB w) w.Parent.length &&
    ((w.Res.all fun x => inI x 0 1000) && ((w.Cap.all fun x => inI x 0 500) && (((w.Sink.length : Int) == s) && (w.Sink.all fun x => inI x 0 ((w.Parent.length : Int) - 1))))))))

theorem qo6 {w : qad} (hl : w.Parent.length ≤ 1048576) (hr : ((w.Res.length : Int) == (w.Parent.length : Int)) = true) : Ev (fun n => qeN n w) (allN (treeB w) w.Parent.length) := by
  rw [beq_iff_eq] at hr
  have hL : Ev (fun n => qaO w n 0) (bif allN (treeB w) w.Parent.length then .nxt (w.Parent.length : Int) else .ret false) := by
    refine qeE ?_ (fun j hj X hX => Ev.succ ?_)
    · exact Ev.succ (by simp only [qaO, qw (Nat.le_refl _), cond_false]; exact .done)
    · simp only [qaO, qv hj, cond_true, qbm hj, Option.bind_some, qdJ, qr (show j < 9223372036854775807 by omega), bne, qby]
      unfold treeB
      by_cases h0 : j = 0
      · subst h0
        rw [show idx w.Res (0 : Int) = some (at0 w.Res 0) from qbm (j := 0) (by omega)]
        simp only [Option.bind_some]
        refine Ev.tt (by simp) (Ev.okP fun _ => Ev.okP1 fun _ => Ev.ff (by simp) hX)
      · have e1 : decide (j = 0) = false := by simp; omega
        have e2 : ((j : Int) == 0) = false := by simp; omega
        have e3 : decide ((j : Int) > 0) = true := by simp; omega
        rw [e1, e2, e3, qbK (show j ≤ 9223372036854775807 by omega)]
        simp only [cond_false, cond_true]
        exact Ev.okP1 fun _ => hX
  unfold qeN
  refine Ev.bind hL ?_
  cases allN (treeB w) w.Parent.length <;> exact .done

theorem qoD {w : qad} {s : Int} (h : qj5 w) : Ev (fun n => qhc n w s) (wireB w s) := by
  have hl := h.Parent.len
  simp only [qhc, qah, Option.bind_some, qdJ, qbK (show w.Parent.length ≤ 9223372036854775807 by omega)]
  unfold wireB
  rw [show inI (w.Parent.length : Int) 1 8 = lenB w.Parent 1 8 from qk9 (lo := 1) (hi := 8)]
  exact Ev.andP fun _ => Ev.andP fun hr => Ev.andP fun _ => Ev.and (qo6 hl hr) fun _ => Ev.and (qed h.Res.len) fun _ => Ev.and (qed h.Cap.len) fun _ => Ev.andP fun _ => Ev.last (qed h.Sink.len)

theorem qn4 {w : qad} {s : Int} (h : qj5 w) : Ev (fun n => qhn n w s) (wireB w s) := by
  have hl := h.Parent.len
  have hsl := h.Sink.len
  have e : wireB w s = ((decide (1 ≤ w.Parent.length) && (decide (w.Parent.length ≤ 8) && (((w.Res.length : Int) == (w.Parent.length : Int)) && (((w.Cap.length : Int) == (w.Parent.length : Int)) && ((w.Sink.length : Int) == s))))) && (allN (fun j => (inI (at0 w.Cap j) 0 500 && inI (at0 w.Res j) 0 1000) && treeB w j) w.Parent.length && (w.Sink.all fun x => inI x 0 ((w.Parent.length : Int) - 1)))) := by
    unfold wireB lenB
    cases h1 : ((w.Res.length : Int) == (w.Parent.length : Int))
    · simp
    · cases h2 : ((w.Cap.length : Int) == (w.Parent.length : Int))
      · simp
      · rw [beq_iff_eq] at h1 h2
        rw [qhU, qhU]
        rw [qfU (p := fun x => inI x 0 1000) (d := 0), qfU (p := fun x => inI x 0 500) (d := 0), show w.Res.length = w.Parent.length by omega, show w.Cap.length = w.Parent.length by omega]
        show _ = (_ && ((allN (fun j => inI (w.Cap.getD j 0) 0 500) _ && allN (fun j => inI (w.Res.getD j 0) 0 1000) _ && _) && _))
        generalize allN (fun j => inI (w.Cap.getD j 0) 0 500) w.Parent.length = a1
        generalize allN (fun j => inI (w.Res.getD j 0) 0 1000) w.Parent.length = a2
        generalize allN (fun j => treeB w j) w.Parent.length = a3
        generalize ((w.Sink.length : Int) == s) = a4
        generalize decide (1 ≤ w.Parent.length) = a5
        generalize decide (w.Parent.length ≤ 8) = a6
        generalize (w.Sink.all fun x => inI x 0 ((w.Parent.length : Int) - 1)) = a7
        cases a1 <;> cases a2 <;> cases a3 <;> cases a4 <;> cases a5 <;> cases a6 <;> rfl
  rw [e]
  unfold qhn
  refine Ev.guardB ?_ fun hb => ?_
  · rw [show decide ((w.Parent.length : Int) < 1) = !decide (1 ≤ w.Parent.length) from qoA (k := 1), show decide ((w.Parent.length : Int) > 8) = !decide (w.Parent.length ≤ 8) from qm6 (k := 8)]
    simp only [bne, qby]
    exact Ev.orBP fun _ => Ev.orBP fun _ => Ev.orBP fun _ => Ev.orBP fun _ => .done
  · simp only [Bool.and_eq_true, beq_iff_eq] at hb
    have hL1 : Ev (fun n => qbS w n 0) (bif allN (fun j => (inI (at0 w.Cap j) 0 500 && inI (at0 w.Res j) 0 1000) && treeB w j) w.Parent.length then .nxt (w.Parent.length : Int) else .ret false) := by
      refine qeE ?_ (fun j hj X hX => Ev.succ ?_)
      · exact Ev.succ (by simp only [qbS, qw (Nat.le_refl _), cond_false]; exact .done)
      · simp only [qbS, qv hj, cond_true, qbm hj, qbm (show j < w.Cap.length by omega), qbm (show j < w.Res.length by omega), Option.bind_some, qdO, qr (show j < 9223372036854775807 by omega), bne, qby]
        refine Ev.chkT (Ev.orBP fun _ => .done) fun _ => ?_
        unfold treeB
        by_cases h0 : j = 0
        · subst h0
          refine Ev.tt (by simp) (Ev.okP fun _ => Ev.okP1 fun _ => Ev.ff (by simp) hX)
        · have e1 : decide (j = 0) = false := by simp; omega
          have e2 : ((j : Int) == 0) = false := by simp; omega
          have e3 : decide ((j : Int) > 0) = true := by simp; omega
          rw [e1, e2, e3, qbK (show j ≤ 9223372036854775807 by omega)]
          simp only [cond_false, cond_true]
          exact Ev.okP1 fun _ => hX
    have hL2 : Ev (fun n => qdl w n 0) (bif (w.Sink.all fun x => inI x 0 ((w.Parent.length : Int) - 1)) then .nxt (w.Sink.length : Int) else .ret false) :=
      qi0 (fun n => by simp only [qdl, qw (Nat.le_refl _), cond_false]) (fun j hj X hX => by
        simp only [qdl, qv hj, cond_true, qg6 hj, Option.bind_some, qdO, qbK (show w.Parent.length ≤ 9223372036854775807 by omega), qr (show j < 9223372036854775807 by omega), qby]
        exact Ev.okP1 fun _ => hX)
    refine Ev.bind hL1 ?_
    cases allN (fun j => (inI (at0 w.Cap j) 0 500 && inI (at0 w.Res j) 0 1000) && treeB w j) w.Parent.length
    · exact .done
    · refine Ev.bind hL2 ?_
      cases (w.Sink.all fun x => inI x 0 ((w.Parent.length : Int) - 1)) <;> exact .done

/-! ### Places -/

instance : Inhabited Tplace := ⟨⟨0, 0, 0, false⟩⟩
instance : Inhabited Tl05Place := ⟨⟨0, 0, 0, false⟩⟩
def toSp (p : Tplace) : Tl05Place := ⟨p.instance_, p.pin, p.net, p.drives⟩
def plX (i : Nat) (x : qp) (j : Nat) : List Tplace := (List.range j).map fun (k : Nat) => ⟨(i : Int), (k : Int), at0 x.Nets k, decide (k + 1 = x.Nets.length)⟩
def plI (d : qk) (j : Nat) : List Tplace := (List.range j).flatMap fun (i : Nat) => plX i (gt d.Instances i) (gt d.Instances i).Nets.length
def plP (d : qk) (j : Nat) : List Tplace := (List.range j).map fun (i : Nat) => ⟨-1, (i : Int), (gt d.Ports i).Net, (gt d.Ports i).Dir == 1⟩
def places (d : qk) : List Tplace := plI d d.Instances.length ++ plP d d.Ports.length

theorem qnp {i : Nat} {x : qp} {j : Nat} : plX i x (j + 1) = plX i x j ++ [⟨(i : Int), (j : Int), at0 x.Nets j, decide (j + 1 = x.Nets.length)⟩] := by
  unfold plX; rw [List.range_succ, List.map_append]; rfl
theorem qjl {d : qk} {j : Nat} : plI d (j + 1) = plI d j ++ plX j (gt d.Instances j) (gt d.Instances j).Nets.length := by
  unfold plI; rw [List.range_succ, List.flatMap_append]; simp
theorem qnx {d : qk} {j : Nat} : plP d (j + 1) = plP d j ++ [⟨-1, (j : Int), (gt d.Ports j).Net, (gt d.Ports j).Dir == 1⟩] := by
  unfold plP; rw [List.range_succ, List.map_append]; rfl
theorem qlc {i : Nat} {x : qp} {j : Nat} : (plX i x j).length = j := by simp [plX]
theorem qlb {d : qk} {j : Nat} : (plP d j).length = j := by simp [plP]

/-- What a valid design says of its sizes. -/
structure smallD (d : qk) : Prop where
  ni : d.Instances.length ≤ 14
  nn : d.Nets.length ≤ 30
  np : d.Ports.length ≤ 8
  nx : ∀ i, i < d.Instances.length → 2 ≤ (gt d.Instances i).Nets.length ∧ (gt d.Instances i).Nets.length ≤ 5

theorem qaW {l : qt} {d : qk} (h : designB l d = true) : smallD d := by
  unfold designB hasNamesB libB at h
  simp only [Bool.and_eq_true, decide_eq_true_eq] at h
  obtain ⟨⟨⟨hc, _⟩, ⟨h1, h2, h3⟩, _⟩, hI, _⟩ := h
  refine ⟨h1, h2, h3, fun i hi => ?_⟩
  rw [qhq, qaQ] at hI hc
  have := hI i hi
  unfold instB at this
  simp only [Bool.and_eq_true, qcP, beq_iff_eq] at this
  have h5 := qhN (qli (hc (gt d.Instances i).Cell.toNat (by omega)))
  omega
theorem qkc {d : qk} (h : smallD d) {j : Nat} (hj : j ≤ d.Instances.length) : (plI d j).length ≤ 5 * j := by
  induction j with
  | zero => exact Nat.le_refl _
  | succ j ih =>
    rw [qjl, List.length_append, qlc]
    have := ih (by omega)
    have := h.nx j (by omega)
    omega
theorem qb6 {d : qk} (h : smallD d) : (places d).length ≤ 78 := by
  unfold places
  rw [List.length_append, qlb]
  have := qkc h (Nat.le_refl _)
  have := h.ni
  have := h.np
  omega

theorem qjp {d : qk} (h : smallD d) : Ev (fun n => qbR n d) (places d) := by
  have h1 := h.ni
  have h2 := h.np
  have hL2 : ∀ i, i < d.Instances.length → ∀ pre : List Tplace, pre.length ≤ 100 → Ev (fun n => qa2 (i : Int) (gt d.Instances i) n pre 0) (pre ++ plX i (gt d.Instances i) (gt d.Instances i).Nets.length, ((gt d.Instances i).Nets.length : Int)) := by
    intro i hi pre hp
    have h5 := h.nx i hi
    have := loopF (Lf := qa2 (i : Int) (gt d.Instances i)) (S := fun j => pre ++ plX i (gt d.Instances i) j) (len := (gt d.Instances i).Nets.length) (fin := (pre ++ plX i (gt d.Instances i) (gt d.Instances i).Nets.length, ((gt d.Instances i).Nets.length : Int))) (fun n => by
        simp only [qa2, qw (Nat.le_refl _), cond_false])
      (fun j hj X hX => by
        have hc : (pre ++ plX i (gt d.Instances i) j).length + [(⟨(i : Int), (j : Int), at0 (gt d.Instances i).Nets j, decide (j + 1 = (gt d.Instances i).Nets.length)⟩ : Tplace)].length ≤ 2147483648 := by
          rw [List.length_append, qlc]; simp; omega
        simp only [qa2, qv hj, cond_true, qbm hj, Option.bind_some, lastE hj (show (gt d.Instances i).Nets.length ≤ 1048576 by omega), qd0 hc, List.append_assoc, ← qnp, qr (show j < 9223372036854775807 by omega)]
        exact hX)
    simpa [plX] using this
  have hL1 : Ev (fun n => qa4 d n ([] : List Tplace) 0) (plI d d.Instances.length, (d.Instances.length : Int)) := by
    refine loopF (Lf := qa4 d) (S := fun j => plI d j) (len := d.Instances.length) (fun n => ?_) (fun j hj X hX => ?_)
    · simp only [qa4, qw (Nat.le_refl _), cond_false]
    · simp only [qa4, qv hj, cond_true, qal hj, Option.bind_some, qr (show j < 9223372036854775807 by omega)]
      refine Ev.bind (hL2 j hj _ (by have := qkc h (Nat.le_of_lt hj); omega)) ?_
      rw [← qjl]
      exact hX
  have hL3 : Ev (fun n => qa3 d n (plI d d.Instances.length) 0) (places d, (d.Ports.length : Int)) := by
    have := loopF (Lf := qa3 d) (S := fun j => plI d d.Instances.length ++ plP d j) (len := d.Ports.length) (fin := (places d, (d.Ports.length : Int))) (fun n => by
        simp only [qa3, qw (Nat.le_refl _), cond_false]; rfl)
      (fun j hj X hX => by
        have hc : (plI d d.Instances.length ++ plP d j).length + [(⟨-1, (j : Int), (gt d.Ports j).Net, (gt d.Ports j).Dir == 1⟩ : Tplace)].length ≤ 2147483648 := by
          rw [List.length_append, qlb]; have := qkc h (Nat.le_refl _); simp; omega
        simp only [qa3, qv hj, cond_true, qal hj, Option.bind_some, qd0 hc, List.append_assoc, ← qnx, qr (show j < 9223372036854775807 by omega)]
        exact hX)
    simpa [plP] using this
  unfold qbR
  exact Ev.bind hL1 (Ev.bind hL3 .done)

theorem qgU {d : qk} (h : smallD d) : Ev (fun n => qcD n d) ((places d).map toSp) := by
  have h1 := h.ni
  have h2 := h.np
  have hL2 : ∀ i, i < d.Instances.length → ∀ pre : List Tplace, pre.length ≤ 100 → Ev (fun n => qbO (i : Int) (gt d.Instances i) n (pre.map toSp) 0) ((pre ++ plX i (gt d.Instances i) (gt d.Instances i).Nets.length).map toSp, ((gt d.Instances i).Nets.length : Int)) := by
    intro i hi pre hp
    have h5 := h.nx i hi
    have := loopF (Lf := qbO (i : Int) (gt d.Instances i)) (S := fun j => (pre ++ plX i (gt d.Instances i) j).map toSp) (len := (gt d.Instances i).Nets.length) (fin := ((pre ++ plX i (gt d.Instances i) (gt d.Instances i).Nets.length).map toSp, ((gt d.Instances i).Nets.length : Int))) (fun n => by
        simp only [qbO, qw (Nat.le_refl _), cond_false])
      (fun j hj X hX => by
        have hc : ((pre ++ plX i (gt d.Instances i) j).map toSp).length + [(⟨(i : Int), (j : Int), at0 (gt d.Instances i).Nets j, decide (j + 1 = (gt d.Instances i).Nets.length)⟩ : Tl05Place)].length ≤ 2147483648 := by
          rw [List.length_map, List.length_append, qlc]; simp; omega
        simp only [qbO, qv hj, cond_true, qbm hj, Option.bind_some, lastE hj (show (gt d.Instances i).Nets.length ≤ 1048576 by omega), qd0 hc, qr (show j < 9223372036854775807 by omega)]
        rw [qnp, ← List.append_assoc, List.map_append] at hX
        exact hX)
    simpa [plX] using this
  have hL1 : Ev (fun n => qbP d n ([] : List Tl05Place) 0) ((plI d d.Instances.length).map toSp, (d.Instances.length : Int)) := by
    refine loopF (Lf := qbP d) (S := fun j => (plI d j).map toSp) (len := d.Instances.length) (fun n => ?_) (fun j hj X hX => ?_)
    · simp only [qbP, qw (Nat.le_refl _), cond_false]
    · simp only [qbP, qv hj, cond_true, qal hj, Option.bind_some, qr (show j < 9223372036854775807 by omega)]
      refine Ev.bind (hL2 j hj _ (by have := qkc h (Nat.le_of_lt hj); omega)) ?_
      rw [← qjl]
      exact hX
  have hL3 : Ev (fun n => qbL d n ((plI d d.Instances.length).map toSp) 0) ((places d).map toSp, (d.Ports.length : Int)) := by
    have := loopF (Lf := qbL d) (S := fun j => (plI d d.Instances.length ++ plP d j).map toSp) (len := d.Ports.length) (fin := ((places d).map toSp, (d.Ports.length : Int))) (fun n => by
        simp only [qbL, qw (Nat.le_refl _), cond_false]; rfl)
      (fun j hj X hX => by
        have hc : ((plI d d.Instances.length ++ plP d j).map toSp).length + [(⟨-1, (j : Int), (gt d.Ports j).Net, (gt d.Ports j).Dir == 1⟩ : Tl05Place)].length ≤ 2147483648 := by
          rw [List.length_map, List.length_append, qlb]; have := qkc h (Nat.le_refl _); simp; omega
        simp only [qbL, qv hj, cond_true, qal hj, Option.bind_some, qd0 hc, qr (show j < 9223372036854775807 by omega)]
        rw [qnx, ← List.append_assoc, List.map_append] at hX
        exact hX)
    simpa [plP] using this
  unfold qcD
  exact Ev.bind hL1 (Ev.bind hL3 .done)

def snkQ (d : qk) (k : Int) (i : Nat) : Bool := ((gt (places d) i).net == k) && !(gt (places d) i).drives
def sinksL (d : qk) (k : Int) (j : Nat) : List Int := ((List.range j).filter (snkQ d k)).map fun (i : Nat) => (i : Int)
def snkN (d : qk) (k : Int) : Nat := cntP (snkQ d k) (places d).length
theorem qh7 {d : qk} {k : Int} {j : Nat} : sinksL d k (j + 1) = sinksL d k j ++ (bif snkQ d k j then [(j : Int)] else []) := by
  unfold sinksL
  rw [List.range_succ, List.filter_append, List.map_append]
  congr 1
  cases h : snkQ d k j <;> simp [h]
theorem qeS {d : qk} {k : Int} {j : Nat} : (sinksL d k j).length = cntP (snkQ d k) j := by
  induction j with
  | zero => rfl
  | succ j ih =>
    rw [qh7, List.length_append, ih]
    show _ = cntP (snkQ d k) j + _
    congr 1
    cases snkQ d k j <;> rfl
theorem qkp {α β : Type} [Inhabited α] [Inhabited β] {xs : List α} {g : α → β} {j : Nat} (h : j < xs.length) : gt (xs.map g) j = g (gt xs j) := by
  rw [qiv (by simpa using h), qiv h]; simp

theorem qkF {d : qk} {k : Int} (h : smallD d) : Ev (fun n => qfd n d k) (sinksL d k (places d).length) := by
  have hl := qb6 h
  have hL : Ev (fun n => qbC k ((places d).map toSp) n ([] : List Int) 0) (sinksL d k (places d).length, ((places d).length : Int)) := by
    refine loopF (Lf := qbC k ((places d).map toSp)) (S := fun j => sinksL d k j) (len := (places d).length) (fun n => ?_) (fun j hj X hX => ?_)
    · simp only [qbC, List.length_map, qw (Nat.le_refl _), cond_false]
    · have hj' : j < ((places d).map toSp).length := by simpa using hj
      have hc : (sinksL d k j).length + [(j : Int)].length ≤ 2147483648 := by
        rw [qeS]
        have : cntP (snkQ d k) j ≤ j := qea
        simp; omega
      simp only [qbC, qv hj', cond_true, qal hj', qkp hj, Option.bind_some, qr (show j < 9223372036854775807 by omega)]
      rw [show ∀ p : Tplace, (toSp p).net = p.net from fun _ => rfl, show ∀ p : Tplace, (toSp p).drives = p.drives from fun _ => rfl]
      refine Ev.bind (b := snkQ d k j) (Ev.andP fun _ => .done) ?_
      rw [qh7] at hX
      cases hq : snkQ d k j
      · rw [hq] at hX
        simp only [cond_false, List.append_nil] at hX ⊢
        exact hX
      · rw [hq] at hX
        simp only [cond_true, qd0 hc, Option.bind_some] at hX ⊢
        exact hX
  unfold qfd
  exact Ev.bind (qgU h) (Ev.bind hL .done)

theorem qiL {l : qt} {d : qk} (h : designB l d = true) {i : Nat} (hi : i < (places d).length) : 0 ≤ (gt (places d) i).net ∧ (gt (places d) i).net < d.Nets.length := by
  unfold designB at h
  simp only [Bool.and_eq_true] at h
  obtain ⟨_, hI, hP, _⟩ := h
  rw [qhq, qaQ] at hI hP
  have hm : gt (places d) i ∈ places d := by rw [qiv hi]; exact List.getElem_mem hi
  generalize gt (places d) i = p at hm
  unfold places at hm
  rcases List.mem_append.1 hm with hm | hm
  · unfold plI at hm
    obtain ⟨i, hi, hm⟩ := List.mem_flatMap.1 hm
    unfold plX at hm
    obtain ⟨k, hk, rfl⟩ := List.mem_map.1 hm
    have := hI i (List.mem_range.1 hi)
    unfold instB at this
    simp only [Bool.and_eq_true] at this
    have h3 := this.2.2
    rw [qfU (d := 0), qaQ] at h3
    have h4 := h3 k (List.mem_range.1 hk)
    unfold netB at h4
    rw [qcP] at h4
    show 0 ≤ at0 _ _ ∧ at0 _ _ < _
    unfold at0
    omega
  · unfold plP at hm
    obtain ⟨i, hi, rfl⟩ := List.mem_map.1 hm
    have := hP i (List.mem_range.1 hi)
    unfold portB netB at this
    simp only [Bool.and_eq_true, qcP] at this
    show 0 ≤ (gt d.Ports i).Net ∧ (gt d.Ports i).Net < _
    omega

/-! ### Blocks -/

def blockB (b : qy) : Bool := (designB b.Library b.Design && ((b.Wires.length : Int) == (b.Design.Nets.length : Int))) && allN (fun j => wireB (gt b.Wires j) (snkN b.Design (j : Int))) b.Wires.length

theorem qn8 {b : qy} (h : qfx b) : Ev (fun n => qgK n b) (blockB b) := by
  have hwl := h.Wires.len
  unfold qgK blockB
  refine Ev.guardB (Ev.or (qnh h.Library h.Design) fun _ => .done) fun hb => ?_
  rw [Bool.and_eq_true, beq_iff_eq] at hb
  obtain ⟨hd, hw⟩ := hb
  have hs := qaW hd
  have hl := qb6 hs
  have hn := hs.nn
  rw [qjt (m := b.Wires.length) (by omega)]
  simp only [Option.bind_some]
  have hL1 : Ev (fun n => qbT (places b.Design) n (vecC (fun _ => 0) b.Wires.length) 0) (vecC (fun k => snkN b.Design (k : Int)) b.Wires.length, ((places b.Design).length : Int)) := by
    refine loopF (Lf := qbT (places b.Design)) (S := fun j => vecC (fun k => cntP (snkQ b.Design (k : Int)) j) b.Wires.length) (len := (places b.Design).length) (fun n => ?_) (fun j hj X hX => ?_)
    · simp only [qbT, qw (Nat.le_refl _), cond_false]; rfl
    · simp only [qbT, qv hj, cond_true, qal hj, Option.bind_some, qr (show j < 9223372036854775807 by omega)]
      obtain ⟨n0, n1⟩ := qiL hd hj
      cases h1 : (gt (places b.Design) j).drives
      · have hc : cntP (snkQ b.Design (((gt (places b.Design) j).net.toNat : Nat) : Int)) j ≤ j := qea
        obtain ⟨e1, e2⟩ := qiz (c := fun k => cntP (snkQ b.Design (k : Int)) j) (c' := fun k => cntP (snkQ b.Design (k : Int)) (j + 1)) (x := (gt (places b.Design) j).net) (m := b.Wires.length) n0 (by omega) (by show cntP _ _ < _; omega) (fun k _ => by
          show cntP _ j + (bif snkQ b.Design (k : Int) j then 1 else 0) = _
          unfold snkQ
          rw [h1, Bool.not_false, Bool.and_true])
        simp only [Bool.not_false, cond_true, Option.bind_some, e1, e2]
        exact hX
      · have : vecC (fun k => cntP (snkQ b.Design (k : Int)) (j + 1)) b.Wires.length = vecC (fun k => cntP (snkQ b.Design (k : Int)) j) b.Wires.length := by
          refine qhO (fun k _ => ?_)
          show cntP _ j + (bif snkQ b.Design (k : Int) j then 1 else 0) = _
          unfold snkQ
          rw [h1, Bool.not_true, Bool.and_false]; rfl
        rw [this] at hX
        exact hX
  have hL2 : Ev (fun n => qcX b (vecC (fun k => snkN b.Design (k : Int)) b.Wires.length) n 0) (bif allN (fun j => wireB (gt b.Wires j) (snkN b.Design (j : Int))) b.Wires.length then .nxt (b.Wires.length : Int) else .ret false) := by
    refine qeE ?_ (fun j hj X hX => Ev.succ ?_)
    · exact Ev.succ (by simp only [qcX, qw (Nat.le_refl _), cond_false]; exact .done)
    · simp only [qcX, qv hj, cond_true, qal hj, qhV hj, Option.bind_some, qr (show j < 9223372036854775807 by omega)]
      exact Ev.chk1 (qoD (qiu h.Wires hj)) fun _ => hX
  refine Ev.bind (qjp hs) (Ev.bind hL1 (Ev.bind hL2 ?_))
  cases allN (fun j => wireB (gt b.Wires j) (snkN b.Design (j : Int))) b.Wires.length <;> exact .done

theorem qkB {b : qy} (h : qfx b) : Ev (fun n => qfH n b) (blockB b) := by
  have hwl := h.Wires.len
  unfold qfH blockB
  refine Ev.guardB (Ev.or (qka h.Library h.Design) fun _ => .done) fun hb => ?_
  rw [Bool.and_eq_true] at hb
  have hs := qaW hb.1
  have hL : Ev (fun n => qc1 b n 0) (bif allN (fun j => wireB (gt b.Wires j) (snkN b.Design (j : Int))) b.Wires.length then .nxt (b.Wires.length : Int) else .ret false) := by
    refine qeE ?_ (fun j hj X hX => Ev.succ ?_)
    · exact Ev.succ (by simp only [qc1, qw (Nat.le_refl _), cond_false]; exact .done)
    · simp only [qc1, qv hj, cond_true, qal hj, Option.bind_some, qr (show j < 9223372036854775807 by omega)]
      refine Ev.bind (qkF hs) ?_
      rw [qeS]
      exact Ev.chk1 (qn4 (qiu h.Wires hj)) fun _ => hX
  refine Ev.bind hL ?_
  cases allN (fun j => wireB (gt b.Wires j) (snkN b.Design (j : Int))) b.Wires.length <;> exact .done
end Go.Fw
