/- By a program of mine (gen.py): for each function a plain function and the proof that the code computes it. -/
import Derived.Test.YtihkipojhdehnaaGreatDoorA3
import Derived.Test.YtihkipojhdehnaaGreatDoorFw34

namespace Go.Fw
open Go Go.Proofs
open Go.RowKit (Below)
set_option maxRecDepth 100000
set_option maxHeartbeats 1600000
def qhP (n : Nat) (t : qF) : Option Bool :=
 (qg8 n t.Slews).bind fun r1 =>
 bif r1 then
  (qg8 n t.Loads).bind fun r2 =>
  bif r2 then
   bif ((t.Values.length : Int) == (W64 ((t.Slews.length : Int) * (t.Loads.length : Int)))) then
    (qby n t.Values (-1000000) 1000000).bind fun r3 =>
    some r3
   else
    some false
  else
   some false
 else
  some false

theorem qmj {n : Nat} {w : World} {t : qF} {cs1 : List Value} (ha1 : GoT.R w (old w) t cs1) {r : Bool} (hF : qhP n t = some r) : RetV Tryz.prog 256 [GoT.v qF cs1] w r := by
 obtain ⟨p1, k1, p2, k2, p3, k3, rfl, s1, s2, s3⟩ := qbF ha1
 refine qe Tryz.func256 rfl (m := 29) rfl rfl (fun h => ?_)
 rw [qhP] at hF
 refine zSR (qN h rfl rfl ?_)
 intro w1 bb1 h
 refine zp1 rfl (zNSR (zp1 rfl (zl 0 0 h rfl ?_)))
 obtain ⟨r1, hr1, hF⟩ := qd hF
 refine qp r1 h call265 (qkm ⟨_, _, rfl, (h.oldS s1)⟩ hr1) rfl rfl rfl rfl ?_
 intro w2 h
 refine zp1 rfl ?_
 by_cases hc1 : r1 = true
 ·replace hF := bifT hc1 hF
  refine qE hc1 (t := 6) rfl (qa rfl (zp1 rfl (qa rfl (zl 0 1 h rfl (qa rfl ?_)))))
  obtain ⟨r2, hr2, hF⟩ := qd hF
  refine qp r2 h call265 (qkm ⟨_, _, rfl, (h.oldS s2)⟩ hr2) rfl rfl rfl rfl ?_
  intro w3 h
  refine zp2 rfl ?_
  by_cases hc2 : r2 = true
  ·replace hF := bifT hc2 hF
   refine qE hc2 (t := 11) rfl (qa rfl (zp1 rfl (qa rfl (zl 0 2 h rfl (qa rfl (zp1 rfl (qa rfl (zp1 rfl (qa rfl (zl 0 0 h rfl (qa rfl ?_)))))))))))
   refine zp1 rfl (qa rfl (zp1 rfl (qa rfl (zl 0 1 h rfl (qa rfl (zp1 rfl (qa rfl (zp1 rfl (qa rfl (zp2 rfl ?_))))))))))
   refine zp1 rfl ?_
   by_cases hc3 : ((t.Values.length : Int) == (W64 ((t.Slews.length : Int) * (t.Loads.length : Int)))) = true
   ·replace hF := bifT hc3 hF
    refine qE hc3 (t := 24) rfl (qa rfl (zp1 rfl (qa rfl (zl 0 2 h rfl (qa rfl ?_)))))
    obtain ⟨r3, hr3, hF⟩ := qd hF
    refine qp r3 h call112 (qcC ⟨_, _, rfl, (h.oldS s3)⟩ hr3) rfl rfl rfl rfl ?_
    intro w4 h
    exact zp2 rfl (qb (qy qc h hF ⟨rfl, trivial⟩))
   replace hc3 := zb hc3
   replace hF := bifF hc3 hF
   exact qD hc3 (t := 24) rfl (zn3 rfl (zp2 rfl (qb (qy qc h hF ⟨rfl, trivial⟩))))
  replace hc2 := zb hc2
  replace hF := bifF hc2 hF
  refine qD hc2 (t := 11) rfl (zn5 rfl (zn5 rfl (zn1 rfl ?_)))
  exact zp2 rfl (zn3 rfl (zp2 rfl (qb (qy qc h hF ⟨rfl, trivial⟩))))
 replace hc1 := zb hc1
 replace hF := bifF hc1 hF
 refine qD hc1 (t := 6) rfl (zn3 rfl (zp2 rfl (zn5 rfl (zn1 rfl ?_))))
 refine zn5 rfl (zp2 rfl (zn3 rfl (zp2 rfl ?_)))
 exact qb (qy qc h hF ⟨rfl, trivial⟩)

def qbS (x : (List Int)) : Nat → Int → Int → Option (Int × Int)
 | 0, _, _ => none
 | n + 1, i1, i2 =>
  bif decide (i2 < (x.length : Int)) then
   (idx x i2).bind fun y2 =>
   qbS x n (if y2 < i1 then y2 else i1) (W64 (i2 + 1))
  else
   some (i1, i2)

def qfA (n : Nat) (x : (List Int)) : Option Int :=
 (
  bif decide ((x.length : Int) < 1) then
   none
  else
   some ()).bind fun _ =>
 (idx x 0).bind fun y1 =>
 (qbS x n y1 1).bind fun o => match o with
 | (i1, _) =>
  some i1

theorem qkK {n : Nat} {w : World} {x : (List Int)} {cs1 : List Value} (ha1 : GoT.R w (old w) x cs1) {r : Int} (hF : qfA n x = some r) : RetV Tryz.prog 257 [GoT.v (List Int) cs1] w r := by
 obtain ⟨p1, k1, rfl, s1⟩ := ha1
 refine qe Tryz.func257 rfl (m := 25) rfl rfl (fun h => ?_)
 rw [qfA] at hF
 refine zSR (zp1 rfl (zNSSR (zp3 rfl (qb ?_))))
 obtain ⟨KF1, hKF1, o2, hF, hK2⟩ := bindE hF
 refine qek (fun e w' => KF1 () = some r ∧ e = [(0, .slice p1 x.length k1)] ∧ SH w w' []) ?_ ?_
 ·refine qr rfl hF ?_ ?_ <;> intro hF
  ·refine qB ?_
   cases hF
  refine qdX ?_
  obtain rfl := qh hF
  exact qx [(0, _)] ⟨rfl, trivial⟩ ⟨hK2, rfl, h⟩
 rintro e2 w2 ⟨hF, rfl, h⟩
 subst hKF1
 refine zSR (zp1 rfl ?_)
 obtain ⟨y1, hy1, hF⟩ := qd hF
 have he1 := qf hy1
 obtain ⟨b1, o_1, q1, cs2, hp1, hq1, -, hr1, hc1⟩ := s1.at hy1
 obtain rfl := hr1
 refine zxe hp1 hq1 he1 rfl (zc 0 (hc1.below h.below) rfl (zp1 rfl (zNSSR (zp1 rfl (qb ?_)))))
 obtain ⟨o1, hF, hK1⟩ := qd hF
 refine qw (qP [(0, _), (3, _), (4, _)] ⟨rfl, rfl, rfl, trivial⟩ ?_)
 refine qH (fun m e w' => ∃ (i1 : Int) (i2 : Int), qbS x m i1 i2 = some o1 ∧ e = [(0, .slice p1 x.length k1), (3, .int .i64 i1), (4, .int .i64 i2)] ∧ SH w w' []) n ⟨_, _, hF, rfl, h⟩ ?_
 rintro m1 e1 w1 ⟨i1, i2, hF, rfl, h⟩
 rcases m1 with _ | m1
 ·rw [qbS] at hF
  cases hF
 rw [qbS] at hF
 refine zSSR (zp4 rfl (qb ?_))
 refine qr rfl hF ?_ ?_ <;> intro hF
 ·refine zKSBR (zp3 rfl ?_)
  obtain ⟨y2, hy2, hF⟩ := qd hF
  have he2 := qf hy2
  obtain ⟨b2, o_2, q2, cs3, hp2, hq2, -, hr2, hc3⟩ := s1.at hy2
  obtain rfl := hr2
  exact zxe hp2 hq2 he2 rfl (zc 0 (hc3.below h.below) rfl (zp2 rfl (zNER (zp3 rfl (qb (qA m1 [(0, _), (3, _), (4, _)] (Nat.lt_succ_self m1) ⟨rfl, rfl, rfl, trivial⟩ ⟨_, _, hF, rfl, h⟩))))))
 refine qG rfl ?_
 obtain rfl := qh hF; replace hF := hK1
 exact zSR (zp2 rfl (qb (qaA qc h hF ⟨rfl, trivial⟩)))

def qfu (n : Nat) (t : qF) (v0 : Bool) : Option Bool :=
 (qhP n t).bind fun r1 =>
 bif (!r1) then
  some true
 else
  bif v0 then
   (qfA n t.Values).bind fun r2 =>
   some (decide (r2 < 0))
  else
   some false

theorem qkO {n : Nat} {w : World} {t : qF} {v0 : Bool} {cs1 : List Value} (ha1 : GoT.R w (old w) t cs1) {p4 : Option Addr} (ha2 : GoT.R w (old w) (some v0) [.pointer p4]) {r : Bool} (hF : qfu n t v0 = some r) : RetV Tryz.prog 255 [GoT.v qF cs1, .pointer p4] w r := by
 obtain ⟨p1, k1, p2, k2, p3, k3, rfl, s1, s2, s3⟩ := qbF ha1
 obtain ⟨b1, o_1, cs2, rfl, -, hr1, hc1⟩ := PtR.get ha2 rfl
 obtain rfl := hr1
 refine qe Tryz.func255 rfl (m := 16) rfl rfl (fun h => ?_)
 rw [qfu] at hF
 refine zSR (qN h rfl rfl ?_)
 intro w1 bb1 h
 refine zp1 rfl (zNSR (zl 0 0 h rfl ?_))
 obtain ⟨r1, hr2, hF⟩ := qd hF
 refine qp r1 h call256 (qmj (h.old ha1) hr2) rfl rfl rfl rfl ?_
 intro w2 h
 refine zp2 rfl ?_
 by_cases hc2 : (!r1) = true
 ·replace hF := bifT hc2 hF
  exact qE hc2 (t := 7) rfl (zn5 rfl (zn2 rfl (zp2 rfl (qb (qy qc h hF ⟨rfl, trivial⟩)))))
 replace hc2 := zb hc2
 replace hF := bifF hc2 hF
 refine qD hc2 (t := 7) rfl (qa rfl (zc 0 (hc1.below h.below) rfl (qa rfl (zp1 rfl ?_))))
 by_cases hc3 : v0 = true
 ·replace hF := bifT hc3 hF
  refine qE hc3 (t := 9) rfl (qa rfl (zp1 rfl (qa rfl (zl 0 2 h rfl (qa rfl ?_)))))
  obtain ⟨r2, hr3, hF⟩ := qd hF
  refine qR r2 h call257 (qkK ⟨_, _, rfl, (h.oldS s3)⟩ hr3) rfl rfl rfl rfl ?_
  intro w3 h
  exact qa rfl (zp1 rfl (qa rfl (zp3 rfl (qb (qy qc h hF ⟨rfl, trivial⟩)))))
 replace hc3 := zb hc3
 replace hF := bifF hc3 hF
 exact qD hc3 (t := 9) rfl (zn4 rfl (qa rfl (zp3 rfl (qb (qy qc h hF ⟨rfl, trivial⟩)))))

def qM (s : (List qF)) (f_0 : Bool) : Nat → Int → Option (Flow Int Int)
 | 0, _ => none
 | n + 1, i1 =>
  bif decide (i1 < (s.length : Int)) then
   (idx s i1).bind fun y1 =>
   (qfu n y1 f_0).bind fun r1 =>
   bif r1 then
    some (.ret i1)
   else
    qM s f_0 n (W64 (i1 + 1))
  else
   some (.nxt i1)

def qav (n : Nat) (s : (List qF)) (f_0 : Bool) : Option Int :=
 (qM s f_0 n 0).bind fun o => match o with
 | .ret r => some r
 | .nxt _ =>
  some (-1)

theorem qe9 {n : Nat} {w : World} {s : (List qF)} {f_0 : Bool} {cs1 : List Value} (ha1 : GoT.R w (old w) s cs1) {p2 : Option Addr} (ha2 : GoT.R w (old w) (some f_0) [.pointer p2]) {r : Int} (hF : qav n s f_0 = some r) : RetV Tryz.prog 264 [GoT.v (List qF) cs1, .func (.func 255) #[] #[.pointer p2]] w r := by
 obtain ⟨p1, k1, rfl, s1⟩ := ha1
 obtain ⟨b1, o_1, cs2, rfl, -, hr1, hc1⟩ := PtR.get ha2 rfl
 obtain rfl := hr1
 refine qe Tryz.func264 rfl (m := 19) rfl rfl (fun h => ?_)
 rw [qav] at hF
 refine zSR (zp1 rfl (zNSSR (zp3 rfl (qb ?_))))
 obtain ⟨o1, hF, hK1⟩ := qd hF
 refine qw (qP [(0, _), (1, _), (7, _), (8, _)] ⟨rfl, rfl, rfl, rfl, trivial⟩ ?_)
 refine qH (fun m e w' => ∃ (i1 : Int), qM s f_0 m i1 = some o1 ∧ e = [(0, .slice p1 s.length k1), (1, .func (.func 255) #[] #[.pointer (some ⟨b1, o_1, none⟩)]), (7, .int .i64 (s.length : Int)), (8, .int .i64 i1)] ∧ SH w w' []) n ⟨_, hF, rfl, h⟩ ?_
 rintro m1 e1 w1 ⟨i1, hF, rfl, h⟩
 rcases m1 with _ | m1
 ·rw [qM] at hF
  cases hF
 rw [qM] at hF
 refine zSR (zp1 rfl (zNS ?_))
 refine qr rfl hF ?_ ?_ <;> intro hF
 ·refine zKSBSR (zp2 rfl (zNSR (zp2 rfl ?_)))
  refine zp1 rfl ?_
  obtain ⟨y1, hy1, hF⟩ := qd hF
  have he1 := qf hy1
  obtain ⟨b2, o_2, q1, cs3, hp1, hq1, -, hr2, hc3⟩ := s1.at hy1
  obtain ⟨p3, k2, p4, k3, p5, k4, rfl, s2, s3, s4⟩ := qbF hr2
  refine zxe hp1 hq1 he1 rfl (zc 0 (hc3.below h.below) rfl ?_)
  obtain ⟨r1, hr3, hF⟩ := qd hF
  refine qp r1 h call255 (qkO (qh0 y1 (h.oldS s2) (h.oldS s3) (h.oldS s4)) (h.old ha2) hr3) rfl rfl rfl rfl ?_
  intro w2 h
  refine qb ?_
  refine qr rfl hF ?_ ?_ <;> intro hF
  ·refine zSR (zp2 rfl (qb ?_))
   obtain rfl := qh hF; replace hF := hK1
   exact qaA qc h hF ⟨rfl, trivial⟩
  exact zKER (zp2 rfl (qb (qA m1 [(0, _), (1, _), (7, _), (8, _)] (Nat.lt_succ_self m1) ⟨rfl, rfl, rfl, rfl, trivial⟩ ⟨_, hF, rfl, h⟩)))
 refine qG rfl ?_
 obtain rfl := qh hF; replace hF := hK1
 exact zSR (zp1 rfl (qb (qaA qc h hF ⟨rfl, trivial⟩)))

def qaO (n : Nat) (s : (List qF)) (f_0 : Bool) : Option Bool :=
 (qav n s f_0).bind fun r1 =>
 some (decide (r1 ≥ 0))

theorem qeH {n : Nat} {w : World} {s : (List qF)} {f_0 : Bool} {cs1 : List Value} (ha1 : GoT.R w (old w) s cs1) {p2 : Option Addr} (ha2 : GoT.R w (old w) (some f_0) [.pointer p2]) {r : Bool} (hF : qaO n s f_0 = some r) : RetV Tryz.prog 254 [GoT.v (List qF) cs1, .func (.func 255) #[] #[.pointer p2]] w r := by
 obtain ⟨p1, k1, rfl, s1⟩ := ha1
 obtain ⟨b1, o_1, cs2, rfl, -, hr1, hc1⟩ := PtR.get ha2 rfl
 obtain rfl := hr1
 refine qe Tryz.func254 rfl (m := 9) rfl rfl (fun h => ?_)
 rw [qaO] at hF
 refine zSR (zp1 rfl (zNSR (zp2 rfl ?_)))
 obtain ⟨r1, hr2, hF⟩ := qd hF
 refine qR r1 h call264 (qe9 ⟨_, _, rfl, (h.oldS s1)⟩ (h.old ha2) hr2) rfl rfl rfl rfl ?_
 intro w1 h
 exact zp2 rfl (qb (qy qc h hF ⟨rfl, trivial⟩))

def qeL (n : Nat) (list : (List qF)) (positive : Bool) : Option Bool :=
 bif ((list.length : Int) == 2) then
  (qaO n list positive).bind fun r1 =>
  some (!r1)
 else
  some false

theorem qhF {n : Nat} {w : World} {list : (List qF)} {positive : Bool} {cs1 : List Value} (ha1 : GoT.R w (old w) list cs1) {r : Bool} (hF : qeL n list positive = some r) : RetV Tryz.prog 244 [GoT.v (List qF) cs1, .bool positive] w r := by
 obtain ⟨p1, k1, rfl, s1⟩ := ha1
 refine qe Tryz.func244 rfl (m := 14) rfl rfl (fun h => ?_)
 rw [qeL] at hF
 refine zSR (qN h rfl rfl ?_)
 intro w1 bb1 h
 refine zp1 rfl (zNSR (zp4 rfl ?_))
 by_cases hc1 : ((list.length : Int) == 2) = true
 ·replace hF := bifT hc1 hF
  refine qE hc1 (t := 8) rfl (qa rfl (zp1 rfl (qa rfl (zp1 rfl (qa rfl ?_)))))
  obtain ⟨r1, hr1, hF⟩ := qd hF
  refine qp r1 h call254 (qeH ⟨_, _, rfl, (h.oldS s1)⟩ (qiu (x := positive) 0 h rfl rfl) hr1) rfl rfl rfl rfl ?_
  intro w2 h
  exact qa rfl (zp3 rfl (qb (qy qc h hF ⟨rfl, trivial⟩)))
 replace hc1 := zb hc1
 replace hF := bifF hc1 hF
 exact qD hc1 (t := 8) rfl (zn4 rfl (zp2 rfl (qb (qy qc h hF ⟨rfl, trivial⟩))))

def qf9 (_ : Nat) (p : qan) : Option Bool :=
 some p.Clock

theorem qkt {n : Nat} {w : World} {p : qan} {cs1 : List Value} (ha1 : GoT.R w (old w) p cs1) {r : Bool} (hF : qf9 n p = some r) : RetV Tryz.prog 259 [GoT.v qan cs1] w r := by
 obtain rfl := qa5 ha1
 refine qe Tryz.func259 rfl (m := 5) rfl rfl (fun h => ?_)
 rw [qf9] at hF
 refine zSR (qN h rfl rfl ?_)
 intro w1 bb1 h
 exact zp1 rfl (zNSR (zp1 rfl (zl 0 3 h rfl (zp1 rfl (qb (qy qc h hF ⟨rfl, trivial⟩))))))

def qO (s : (List qan)) : Nat → Int → Option (Flow Int Int)
 | 0, _ => none
 | n + 1, i1 =>
  bif decide (i1 < (s.length : Int)) then
   (idx s i1).bind fun y1 =>
   (qf9 n y1).bind fun r1 =>
   bif r1 then
    some (.ret i1)
   else
    qO s n (W64 (i1 + 1))
  else
   some (.nxt i1)

def qaY (n : Nat) (s : (List qan)) : Option Int :=
 (qO s n 0).bind fun o => match o with
 | .ret r => some r
 | .nxt _ =>
  some (-1)

theorem qfh {n : Nat} {w : World} {s : (List qan)} {cs1 : List Value} (ha1 : GoT.R w (old w) s cs1) {r : Int} (hF : qaY n s = some r) : RetV Tryz.prog 258 [GoT.v (List qan) cs1, .func (.func 259) #[] #[]] w r := by
 obtain ⟨p1, k1, rfl, s1⟩ := ha1
 refine qe Tryz.func258 rfl (m := 19) rfl rfl (fun h => ?_)
 rw [qaY] at hF
 refine zSR (zp1 rfl (zNSSR (zp3 rfl (qb ?_))))
 obtain ⟨o1, hF, hK1⟩ := qd hF
 refine qw (qP [(0, _), (1, _), (7, _), (8, _)] ⟨rfl, rfl, rfl, rfl, trivial⟩ ?_)
 refine qH (fun m e w' => ∃ (i1 : Int), qO s m i1 = some o1 ∧ e = [(0, .slice p1 s.length k1), (1, .func (.func 259) #[] #[]), (7, .int .i64 (s.length : Int)), (8, .int .i64 i1)] ∧ SH w w' []) n ⟨_, hF, rfl, h⟩ ?_
 rintro m1 e1 w1 ⟨i1, hF, rfl, h⟩
 rcases m1 with _ | m1
 ·rw [qO] at hF
  cases hF
 rw [qO] at hF
 refine zSR (zp1 rfl (zNS ?_))
 refine qr rfl hF ?_ ?_ <;> intro hF
 ·refine zKSBSR (zp2 rfl (zNSR (zp2 rfl ?_)))
  refine zp1 rfl ?_
  obtain ⟨y1, hy1, hF⟩ := qd hF
  have he1 := qf hy1
  obtain ⟨b1, o_1, q1, cs2, hp1, hq1, -, hr1, hc2⟩ := s1.at hy1
  obtain rfl := qa5 hr1
  refine zxe hp1 hq1 he1 rfl (zc 0 (hc2.below h.below) rfl ?_)
  obtain ⟨r1, hr2, hF⟩ := qd hF
  refine qp r1 h call259 (qkt (qeg y1) hr2) rfl rfl rfl rfl ?_
  intro w2 h
  refine qb ?_
  refine qr rfl hF ?_ ?_ <;> intro hF
  ·refine zSR (zp2 rfl (qb ?_))
   obtain rfl := qh hF; replace hF := hK1
   exact qaA qc h hF ⟨rfl, trivial⟩
  exact zKER (zp2 rfl (qb (qA m1 [(0, _), (1, _), (7, _), (8, _)] (Nat.lt_succ_self m1) ⟨rfl, rfl, rfl, rfl, trivial⟩ ⟨_, hF, rfl, h⟩)))
 refine qG rfl ?_
 obtain rfl := qh hF; replace hF := hK1
 exact zSR (zp1 rfl (qb (qaA qc h hF ⟨rfl, trivial⟩)))

def qfX (n : Nat) (c : qC) : Option Int :=
 (qaY n c.Pins).bind fun r1 =>
 some r1

theorem qld {n : Nat} {w : World} {c : qC} {cs1 : List Value} (ha1 : GoT.R w (old w) c cs1) {r : Int} (hF : qfX n c = some r) : RetV Tryz.prog 245 [GoT.v qC cs1] w r := by
 obtain ⟨p1, k1, p2, k2, p3, k3, rfl, s1, s2, s3⟩ := qY ha1
 refine qe Tryz.func245 rfl (m := 6) rfl rfl (fun h => ?_)
 rw [qfX] at hF
 refine zSR (qN h rfl rfl ?_)
 intro w1 bb1 h
 refine zp1 rfl (zNSR (zp1 rfl (zl 0 2 h rfl ?_)))
 obtain ⟨r1, hr1, hF⟩ := qd hF
 refine qR r1 h call258 (qfh ⟨_, _, rfl, (h.oldS s1)⟩ hr1) rfl rfl rfl rfl ?_
 intro w2 h
 exact zp1 rfl (qb (qaA qc h hF ⟨rfl, trivial⟩))

def qeX (n : Nat) (c : qC) (pin : Int) : Option Bool :=
 (qck n c).bind fun r1 =>
 (qaX n pin 0 (W64 (r1 - 1))).bind fun r2 =>
 some r2

theorem qii {n : Nat} {w : World} {c : qC} {pin : Int} {cs1 : List Value} (ha1 : GoT.R w (old w) c cs1) {r : Bool} (hF : qeX n c pin = some r) : RetV Tryz.prog 246 [GoT.v qC cs1, .int .i64 pin] w r := by
 obtain ⟨p1, k1, p2, k2, p3, k3, rfl, s1, s2, s3⟩ := qY ha1
 refine qe Tryz.func246 rfl (m := 10) rfl rfl (fun h => ?_)
 rw [qeX] at hF
 refine zSR (qN h rfl rfl ?_)
 intro w1 bb1 h
 refine zp1 rfl (zNSR (zp1 rfl (zl 0 0 h rfl ?_)))
 obtain ⟨r1, hr1, hF⟩ := qd hF
 refine qR r1 h call163 (qfj (h.old ha1) hr1) rfl rfl rfl rfl ?_
 intro w2 h
 refine zp1 rfl ?_
 obtain ⟨r2, hr2, hF⟩ := qd hF
 refine qp r2 h call86 (qaM hr2) rfl rfl rfl rfl ?_
 intro w3 h
 exact zp1 rfl (qb (qy qc h hF ⟨rfl, trivial⟩))

def qfU (n : Nat) (a_0 : qC) (a_1 : qV) : Option Bool :=
 (qhz n a_1.Kind).bind fun r1 =>
 bif r1 then
  (
   bif (a_1.Sense == 0) then
    bif ((a_1.Slew.length : Int) == 0) then
     (qeL n a_1.Delay false).bind fun r2 =>
     bif r2 then
      (qfX n a_0).bind fun r3 =>
      bif (a_1.From == r3) then
       bif decide (a_1.From ≥ 0) then
        (qeX n a_0 a_1.To).bind fun r4 =>
        bif r4 then
         some (a_1.To != a_1.From)
        else
         some false
       else
        some false
      else
       some false
     else
      some false
    else
     some false
   else
    some false).bind fun b1 =>
  some b1
 else
  (
   (qeL n a_1.Delay true).bind fun r6 =>
   bif (!r6) then
    some true
   else
    (qeL n a_1.Slew true).bind fun r7 =>
    bif (!r7) then
     some true
    else
     (qck n a_0).bind fun r8 =>
     bif (a_1.To != r8) then
      some true
     else
      (qeX n a_0 a_1.From).bind fun r9 =>
      some (!r9)).bind fun b2 =>
  bif b2 then
   some false
  else
   bif (a_1.Kind == 1) then
    (idx a_0.Pins a_1.From).bind fun y1 =>
    bif (!y1.Clock) then
     (qaX n a_1.Sense 1 3).bind fun r5 =>
     some r5
    else
     some false
   else
    (
     bif (a_1.Kind == 2) then
      some (a_1.Kind == 2)
     else
      some (a_1.Kind == 3)).bind fun b4 =>
    bif b4 then
     (idx a_0.Pins a_1.From).bind fun y2 =>
     bif y2.Clock then
      some (a_1.Sense == 0)
     else
      some false
    else
     some false

theorem qk6 {n : Nat} {w : World} {a_0 : qC} {a_1 : qV} {cs1 : List Value} (ha1 : GoT.R w (old w) a_0 cs1) {cs2 : List Value} (ha2 : GoT.R w (old w) a_1 cs2) {r : Bool} (hF : qfU n a_0 a_1 = some r) : RetV Tryz.prog 230 [GoT.v qC cs1, GoT.v qV cs2] w r := by
 obtain ⟨p1, k1, p2, k2, p3, k3, rfl, s1, s2, s3⟩ := qY ha1
 obtain ⟨p4, k4, p5, k5, rfl, s4, s5⟩ := qaH ha2
 refine qe Tryz.func230 rfl (m := 103) rfl rfl (fun h => ?_)
 rw [qfU] at hF
 refine zSR (qN h rfl rfl ?_)
 intro w1 bb1 h
 refine qN h rfl rfl ?_
 intro w2 bb2 h
 refine zp1 rfl (zNSSR (zp1 rfl (zl 0 0 h rfl ?_)))
 obtain ⟨r1, hr1, hF⟩ := qd hF
 refine qp r1 h call243 (qmp hr1) rfl rfl rfl rfl ?_
 intro w3 h
 refine qb ?_
 refine qr rfl hF ?_ ?_ <;> intro hF
 ·refine qbq ?_
  obtain ⟨KF1, hKF1, o1, hF, hK1⟩ := bindE hF
  refine qek (fun e w' => ∃ (b1 : Bool), KF1 b1 = some r ∧ e = [(4, .bool b1)] ∧ SH w w' []) ?_ ?_
  ·refine qcN rfl (by kernel_rfl) ?_
   refine zd1 rfl ?_
   refine zdl 0 3 h rfl ?_
   refine zd2 rfl ?_
   by_cases hc2 : (a_1.Sense == 0) = true
   ·replace hF := bifT hc2 hF
    refine qdc hc2 (t := 11) rfl (qi rfl (zd1 rfl (qi rfl ?_)))
    refine zdl 0 5 h rfl ?_
    refine qi rfl (zd1 rfl (qi rfl (zd3 rfl ?_)))
    by_cases hc3 : ((a_1.Slew.length : Int) == 0) = true
    ·replace hF := bifT hc3 hF
     refine qdc hc3 (t := 17) rfl (qi rfl (zd1 rfl (qi rfl ?_)))
     refine zdl 0 4 h rfl ?_
     refine qi rfl ?_
     obtain ⟨r2, hr2, hF⟩ := qd hF
     refine qcO r2 (vsB _) call244 (fun _ hb => qhF ⟨_, _, rfl, ((h.ext hb).oldS s4)⟩ hr2) rfl rfl rfl rfl ?_
     refine zd2 rfl ?_
     by_cases hc4 : r2 = true
     ·replace hF := bifT hc4 hF
      refine qdc hc4 (t := 22) rfl (qi rfl (zd1 rfl (qi rfl ?_)))
      refine zdl 0 1 h rfl ?_
      refine qi rfl ?_
      refine zdl 1 0 h rfl ?_
      refine qi rfl ?_
      obtain ⟨r3, hr3, hF⟩ := qd hF
      refine qcO r3 (vsI _) call245 (fun _ hb => qld ((h.ext hb).old ha1) hr3) rfl rfl rfl rfl ?_
      refine qi rfl (zd3 rfl ?_)
      by_cases hc5 : (a_1.From == r3) = true
      ·replace hF := bifT hc5 hF
       refine qdc hc5 (t := 29) rfl (qi rfl (zd1 rfl (qi rfl ?_)))
       refine zdl 0 1 h rfl ?_
       refine qi rfl (zd3 rfl ?_)
       by_cases hc6 : (decide (a_1.From ≥ 0)) = true
       ·replace hF := bifT hc6 hF
        refine qdc hc6 (t := 34) rfl (qi rfl ?_)
        refine zdl 1 0 h rfl ?_
        refine qi rfl (zd1 rfl (qi rfl ?_))
        refine zdl 0 2 h rfl ?_
        refine qi rfl ?_
        obtain ⟨r4, hr4, hF⟩ := qd hF
        refine qcO r4 (vsB _) call246 (fun _ hb => qii ((h.ext hb).old ha1) hr4) rfl rfl rfl rfl ?_
        refine zd2 rfl ?_
        by_cases hc7 : r4 = true
        ·replace hF := bifT hc7 hF
         refine qdc hc7 (t := 40) rfl (qi rfl (zd1 rfl (qi rfl ?_)))
         refine zdl 0 2 h rfl ?_
         refine qi rfl (zd1 rfl (qi rfl ?_))
         refine zdl 0 1 h rfl ?_
         refine qi rfl (zd3 rfl ?_)
         refine qbj (fun w4 hb => ?_)
         replace h := h.ext hb
         clear hb
         replace h := h.pick [] rfl
         obtain rfl := qh hF
         exact qx [(4, _)] ⟨rfl, trivial⟩ ⟨_, hK1, rfl, h⟩
        replace hc7 := zb hc7
        replace hF := bifF hc7 hF
        refine qdk hc7 (t := 40) rfl (qk rfl rfl rfl (qk rfl rfl rfl (qk rfl rfl rfl (qk rfl rfl rfl (qk rfl rfl rfl (zd2 rfl ?_))))))
        refine qbj (fun w5 hb => ?_)
        replace h := h.ext hb
        clear hb
        replace h := h.pick [] rfl
        obtain rfl := qh hF
        exact qx [(4, _)] ⟨rfl, trivial⟩ ⟨_, hK1, rfl, h⟩
       replace hc6 := zb hc6
       replace hF := bifF hc6 hF
       refine qdk hc6 (t := 34) rfl (qk rfl rfl rfl (qk rfl rfl rfl (qk rfl rfl rfl (qk rfl rfl rfl (zd2 rfl (qk rfl rfl rfl (qk rfl rfl rfl (qk rfl rfl rfl (qk rfl rfl rfl (qk rfl rfl rfl ?_))))))))))
       refine zd2 rfl ?_
       refine qbj (fun w6 hb => ?_)
       replace h := h.ext hb
       clear hb
       replace h := h.pick [] rfl
       obtain rfl := qh hF
       exact qx [(4, _)] ⟨rfl, trivial⟩ ⟨_, hK1, rfl, h⟩
      replace hc5 := zb hc5
      replace hF := bifF hc5 hF
      refine qdk hc5 (t := 29) rfl (qk rfl rfl rfl (qk rfl rfl rfl (qk rfl rfl rfl (zd2 rfl (qk rfl rfl rfl (qk rfl rfl rfl (qk rfl rfl rfl (qk rfl rfl rfl (zd2 rfl ?_)))))))))
      refine qk rfl rfl rfl (qk rfl rfl rfl (qk rfl rfl rfl (qk rfl rfl rfl (qk rfl rfl rfl (zd2 rfl ?_)))))
      refine qbj (fun w7 hb => ?_)
      replace h := h.ext hb
      clear hb
      replace h := h.pick [] rfl
      obtain rfl := qh hF
      exact qx [(4, _)] ⟨rfl, trivial⟩ ⟨_, hK1, rfl, h⟩
     replace hc4 := zb hc4
     replace hF := bifF hc4 hF
     refine qdk hc4 (t := 22) rfl (qk rfl rfl rfl (qk rfl rfl rfl (qk rfl rfl rfl (qk rfl rfl rfl (qk rfl rfl rfl (zd2 rfl (qk rfl rfl rfl (qk rfl rfl rfl (qk rfl rfl rfl (zd1 rfl ?_))))))))))
     refine zd1 rfl (qk rfl rfl rfl (qk rfl rfl rfl (qk rfl rfl rfl (qk rfl rfl rfl (zd2 rfl (qk rfl rfl rfl (qk rfl rfl rfl (qk rfl rfl rfl (qk rfl rfl rfl (qk rfl rfl rfl ?_))))))))))
     refine zd2 rfl ?_
     refine qbj (fun w8 hb => ?_)
     replace h := h.ext hb
     clear hb
     replace h := h.pick [] rfl
     obtain rfl := qh hF
     exact qx [(4, _)] ⟨rfl, trivial⟩ ⟨_, hK1, rfl, h⟩
    replace hc3 := zb hc3
    replace hF := bifF hc3 hF
    refine qdk hc3 (t := 17) rfl (qk rfl rfl rfl (qk rfl rfl rfl (qk rfl rfl rfl (zd2 rfl (qk rfl rfl rfl (qk rfl rfl rfl (qk rfl rfl rfl (qk rfl rfl rfl (qk rfl rfl rfl (zd1 rfl ?_))))))))))
    refine zd1 rfl (qk rfl rfl rfl (qk rfl rfl rfl (qk rfl rfl rfl (zd2 rfl (qk rfl rfl rfl (qk rfl rfl rfl (qk rfl rfl rfl (qk rfl rfl rfl (zd2 rfl ?_)))))))))
    refine qk rfl rfl rfl (qk rfl rfl rfl (qk rfl rfl rfl (qk rfl rfl rfl (qk rfl rfl rfl (zd2 rfl ?_)))))
    refine qbj (fun w9 hb => ?_)
    replace h := h.ext hb
    clear hb
    replace h := h.pick [] rfl
    obtain rfl := qh hF
    exact qx [(4, _)] ⟨rfl, trivial⟩ ⟨_, hK1, rfl, h⟩
   replace hc2 := zb hc2
   replace hF := bifF hc2 hF
   refine qdk hc2 (t := 11) rfl (qk rfl rfl rfl (qk rfl rfl rfl (qk rfl rfl rfl (qk rfl rfl rfl (zd2 rfl (qk rfl rfl rfl (qk rfl rfl rfl (qk rfl rfl rfl (zd2 rfl ?_)))))))))
   refine qk rfl rfl rfl (qk rfl rfl rfl (qk rfl rfl rfl (qk rfl rfl rfl (qk rfl rfl rfl (zd2 rfl (qk rfl rfl rfl (qk rfl rfl rfl (qk rfl rfl rfl (zd2 rfl ?_)))))))))
   refine qk rfl rfl rfl (qk rfl rfl rfl (qk rfl rfl rfl (qk rfl rfl rfl (zd2 rfl (qk rfl rfl rfl (qk rfl rfl rfl (qk rfl rfl rfl (qk rfl rfl rfl (qk rfl rfl rfl (zd1 rfl ?_))))))))))
   refine zd1 rfl ?_
   refine qbj (fun w10 hb => ?_)
   replace h := h.ext hb
   clear hb
   replace h := h.pick [] rfl
   obtain rfl := qh hF
   exact qx [(4, _)] ⟨rfl, trivial⟩ ⟨_, hK1, rfl, h⟩
  rintro e1 w11 ⟨b1, hF, rfl, h⟩
  subst hKF1
  exact qy qc h hF ⟨rfl, trivial⟩
 refine zKSS ?_
 obtain ⟨KF3, hKF3, o3, hF, hK3⟩ := bindE hF
 refine qek (fun e w' => ∃ (b2 : Bool), KF3 b2 = some r ∧ e = [(2, .pointer (some ⟨bb1, 0, none⟩)), (3, .pointer (some ⟨bb2, 0, none⟩)), (70, .bool b2)] ∧ SH w w' [Ch.box bb2 [.int .i64 a_1.Kind, .int .i64 a_1.From, .int .i64 a_1.To, .int .i64 a_1.Sense, .slice p4 a_1.Delay.length k4, .slice p5 a_1.Slew.length k5] 211, Ch.box bb1 [.string a_0.Name, .int .i64 a_0.Kind, .slice p1 a_0.Pins.length k1, .slice p2 a_0.Arcs.length k2, .slice p3 a_0.Truth.length k3, .int .i64 a_0.Leak, .int .i64 a_0.Energy] 183]) ?_ ?_
 ·refine qcN rfl (by kernel_rfl) ?_
  refine zd1 rfl ?_
  refine zdl 0 4 h rfl ?_
  obtain ⟨r6, hr8, hF⟩ := qd hF
  refine qcO r6 (vsB _) call244 (fun _ hb => qhF ⟨_, _, rfl, ((h.ext hb).oldS s4)⟩ hr8) rfl rfl rfl rfl ?_
  refine zd2 rfl ?_
  by_cases hc16 : (!r6) = true
  ·replace hF := bifT hc16 hF
   refine qdc hc16 (t := 51) rfl (qk rfl rfl rfl (qk rfl rfl rfl (qk rfl rfl rfl (qk rfl rfl rfl (zd2 rfl (qk rfl rfl rfl (qk rfl rfl rfl (qk rfl rfl rfl (qk rfl rfl rfl (qk rfl rfl rfl ?_))))))))))
   refine zd2 rfl (qk rfl rfl rfl (qk rfl rfl rfl (qk rfl rfl rfl (qk rfl rfl rfl (qk rfl rfl rfl (zd1 rfl ?_))))))
   refine qbj (fun w14 hb => ?_)
   replace h := h.ext hb
   clear hb
   obtain rfl := qh hF
   exact qx [(2, _), (3, _), (70, _)] ⟨rfl, rfl, rfl, trivial⟩ ⟨_, hK3, rfl, h⟩
  replace hc16 := zb hc16
  replace hF := bifF hc16 hF
  refine qdk hc16 (t := 51) rfl (qi rfl (zd1 rfl (qi rfl ?_)))
  refine zdl 0 5 h rfl ?_
  refine qi rfl ?_
  obtain ⟨r7, hr9, hF⟩ := qd hF
  refine qcO r7 (vsB _) call244 (fun _ hb => qhF ⟨_, _, rfl, ((h.ext hb).oldS s5)⟩ hr9) rfl rfl rfl rfl ?_
  refine qi rfl (zd3 rfl ?_)
  by_cases hc17 : (!r7) = true
  ·replace hF := bifT hc17 hF
   refine qdc hc17 (t := 57) rfl (qk rfl rfl rfl (qk rfl rfl rfl (qk rfl rfl rfl (qk rfl rfl rfl (qk rfl rfl rfl (zd2 rfl (qk rfl rfl rfl (qk rfl rfl rfl (qk rfl rfl rfl (qk rfl rfl rfl ?_))))))))))
   refine qk rfl rfl rfl (zd1 rfl ?_)
   refine qbj (fun w15 hb => ?_)
   replace h := h.ext hb
   clear hb
   obtain rfl := qh hF
   exact qx [(2, _), (3, _), (70, _)] ⟨rfl, rfl, rfl, trivial⟩ ⟨_, hK3, rfl, h⟩
  replace hc17 := zb hc17
  replace hF := bifF hc17 hF
  refine qdk hc17 (t := 57) rfl (qi rfl (zd1 rfl (qi rfl ?_)))
  refine zdl 0 2 h rfl ?_
  refine qi rfl ?_
  refine zdl 1 0 h rfl ?_
  refine qi rfl ?_
  obtain ⟨r8, hr10, hF⟩ := qd hF
  refine qcO r8 (vsI _) call163 (fun _ hb => qfj ((h.ext hb).old ha1) hr10) rfl rfl rfl rfl ?_
  refine qi rfl (zd3 rfl ?_)
  by_cases hc18 : (a_1.To != r8) = true
  ·replace hF := bifT hc18 hF
   refine qdc hc18 (t := 64) rfl (qk rfl rfl rfl (qk rfl rfl rfl (qk rfl rfl rfl (qk rfl rfl rfl (qk rfl rfl rfl (zd1 rfl ?_))))))
   refine qbj (fun w16 hb => ?_)
   replace h := h.ext hb
   clear hb
   obtain rfl := qh hF
   exact qx [(2, _), (3, _), (70, _)] ⟨rfl, rfl, rfl, trivial⟩ ⟨_, hK3, rfl, h⟩
  replace hc18 := zb hc18
  replace hF := bifF hc18 hF
  refine qdk hc18 (t := 64) rfl (qi rfl ?_)
  refine zdl 1 0 h rfl ?_
  refine qi rfl (zd1 rfl (qi rfl ?_))
  refine zdl 0 1 h rfl ?_
  refine qi rfl ?_
  obtain ⟨r9, hr11, hF⟩ := qd hF
  refine qcO r9 (vsB _) call246 (fun _ hb => qii ((h.ext hb).old ha1) hr11) rfl rfl rfl rfl ?_
  refine qi rfl (zd2 rfl ?_)
  refine qbj (fun w17 hb => ?_)
  replace h := h.ext hb
  clear hb
  obtain rfl := qh hF
  exact qx [(2, _), (3, _), (70, _)] ⟨rfl, rfl, rfl, trivial⟩ ⟨_, hK3, rfl, h⟩
 rintro e3 w18 ⟨b2, hF, rfl, h⟩
 subst hKF3
 refine qr rfl hF ?_ ?_ <;> intro hF
 ·exact zSR (zp1 rfl (qb (qy qc h hF ⟨rfl, trivial⟩)))
 refine zKSSR (zp1 rfl (zl 0 0 h rfl (qb (zBSR (zp2 rfl ?_)))))
 refine qb ?_
 refine qr rfl hF ?_ ?_ <;> intro hF
 ·refine zSR (zp1 rfl (zl 1 2 h rfl (zp1 rfl (zl 0 1 h rfl ?_))))
  obtain ⟨y1, hy1, hF⟩ := qd hF
  have he1 := qf hy1
  obtain ⟨b3, o_1, q1, cs3, hp1, hq1, -, hr5, hc10⟩ := s1.at hy1
  obtain rfl := qa5 hr5
  refine zxe hp1 hq1 he1 rfl (zp1 rfl (zc 3 (hc10.below h.below) rfl (zp2 rfl ?_)))
  by_cases hc11 : (!y1.Clock) = true
  ·replace hF := bifT hc11 hF
   refine qE hc11 (t := 83) rfl (qa rfl (zp1 rfl (qa rfl (zl 0 3 h rfl (qa rfl ?_)))))
   obtain ⟨r5, hr6, hF⟩ := qd hF
   refine qp r5 h call86 (qaM hr6) rfl rfl rfl rfl ?_
   intro w12 h
   exact zp2 rfl (qb (qy qc h hF ⟨rfl, trivial⟩))
  replace hc11 := zb hc11
  replace hF := bifF hc11 hF
  exact qD hc11 (t := 83) rfl (zn3 rfl (zp2 rfl (qb (qy qc h hF ⟨rfl, trivial⟩))))
 refine zSSR (zp2 rfl (qb ?_))
 obtain ⟨KF2, hKF2, o2, hF, hK2⟩ := bindE hF
 refine qek (fun e w' => ∃ (b4 : Bool), KF2 b4 = some r ∧ e = [(2, .pointer (some ⟨bb1, 0, none⟩)), (3, .pointer (some ⟨bb2, 0, none⟩)), (88, .bool b4)] ∧ SH w w' [Ch.box bb2 [.int .i64 a_1.Kind, .int .i64 a_1.From, .int .i64 a_1.To, .int .i64 a_1.Sense, .slice p4 a_1.Delay.length k4, .slice p5 a_1.Slew.length k5] 211, Ch.box bb1 [.string a_0.Name, .int .i64 a_0.Kind, .slice p1 a_0.Pins.length k1, .slice p2 a_0.Arcs.length k2, .slice p3 a_0.Truth.length k3, .int .i64 a_0.Leak, .int .i64 a_0.Energy] 183]) ?_ ?_
 ·refine qr rfl hF ?_ ?_ <;> intro hF
  ·refine qdX ?_
   obtain rfl := qh hF
   exact qx [(2, _), (3, _), (88, _)] ⟨rfl, rfl, rfl, trivial⟩ ⟨_, hK2, rfl, h⟩
  refine qB (zp2 rfl (qb ?_))
  obtain rfl := qh hF
  exact qx [(2, _), (3, _), (88, _)] ⟨rfl, rfl, rfl, trivial⟩ ⟨_, hK2, rfl, h⟩
 rintro e2 w13 ⟨b4, hF, rfl, h⟩
 subst hKF2
 refine qr rfl hF ?_ ?_ <;> intro hF
 ·refine zSR (zp1 rfl (zl 1 2 h rfl (zp1 rfl (zl 0 1 h rfl ?_))))
  obtain ⟨y2, hy2, hF⟩ := qd hF
  have he2 := qf hy2
  obtain ⟨b5, o_2, q2, cs4, hp2, hq2, -, hr7, hc13⟩ := s1.at hy2
  obtain rfl := qa5 hr7
  refine zxe hp2 hq2 he2 rfl (zp1 rfl (zc 3 (hc13.below h.below) rfl (zp1 rfl ?_)))
  by_cases hc14 : y2.Clock = true
  ·replace hF := bifT hc14 hF
   exact qE hc14 (t := 98) rfl (qa rfl (zp1 rfl (qa rfl (zl 0 3 h rfl (qa rfl (zp3 rfl (qb (qy qc h hF ⟨rfl, trivial⟩))))))))
  replace hc14 := zb hc14
  replace hF := bifF hc14 hF
  exact qD hc14 (t := 98) rfl (zn3 rfl (zp2 rfl (qb (qy qc h hF ⟨rfl, trivial⟩))))
 exact zKE (zSR (zp1 rfl (qb (qy qc h hF ⟨rfl, trivial⟩))))

def qeh (_ : Nat) (a_o : qV) (v0 : qV) : Option Bool :=
 bif (a_o.Kind == v0.Kind) then
  bif (a_o.From == v0.From) then
   some (a_o.To == v0.To)
  else
   some false
 else
  some false

theorem qjH {n : Nat} {w : World} {a_o : qV} {v0 : qV} {cs1 : List Value} (ha1 : GoT.R w (old w) a_o cs1) {p3 : Option Addr} (ha2 : GoT.R w (old w) (some v0) [.pointer p3]) {r : Bool} (hF : qeh n a_o v0 = some r) : RetV Tryz.prog 231 [GoT.v qV cs1, .pointer p3] w r := by
 obtain ⟨p1, k1, p2, k2, rfl, s1, s2⟩ := qaH ha1
 obtain ⟨b1, o_1, cs2, rfl, -, hr1, hc1⟩ := PtR.get ha2 rfl
 obtain ⟨p4, k3, p5, k4, rfl, s3, s4⟩ := qaH hr1
 refine qe Tryz.func231 rfl (m := 23) rfl rfl (fun h => ?_)
 rw [qeh] at hF
 refine zSR (qN h rfl rfl ?_)
 intro w1 bb1 h
 refine zp1 rfl (zNSR (zp1 rfl (zl 0 0 h rfl (zp1 rfl (zc 0 (hc1.below h.below) rfl (zp2 rfl ?_))))))
 by_cases hc2 : (a_o.Kind == v0.Kind) = true
 ·replace hF := bifT hc2 hF
  refine qE hc2 (t := 9) rfl (qa rfl (zp1 rfl (qa rfl (zl 0 1 h rfl (qa rfl (zp1 rfl (qa rfl (zc 1 (hc1.below h.below) rfl (qa rfl (zp2 rfl ?_))))))))))
  refine zp1 rfl ?_
  by_cases hc3 : (a_o.From == v0.From) = true
  ·replace hF := bifT hc3 hF
   refine qE hc3 (t := 16) rfl (qa rfl (zp1 rfl (qa rfl (zl 0 2 h rfl (qa rfl (zp1 rfl (qa rfl (zc 2 (hc1.below h.below) rfl (qa rfl (zp2 rfl ?_))))))))))
   exact zp1 rfl (qb (qy qc h hF ⟨rfl, trivial⟩))
  replace hc3 := zb hc3
  replace hF := bifF hc3 hF
  exact qD hc3 (t := 16) rfl (zn5 rfl (zp2 rfl (qb (qy qc h hF ⟨rfl, trivial⟩))))
 replace hc2 := zb hc2
 replace hF := bifF hc2 hF
 refine qD hc2 (t := 9) rfl (zn5 rfl (zp2 rfl (zn4 rfl ?_)))
 exact zn1 rfl (zp2 rfl (qb (qy qc h hF ⟨rfl, trivial⟩)))

def qL (s : (List qV)) (f_0 : qV) : Nat → Int → Option (Flow Int Int)
 | 0, _ => none
 | n + 1, i1 =>
  bif decide (i1 < (s.length : Int)) then
   (idx s i1).bind fun y1 =>
   (qeh n y1 f_0).bind fun r1 =>
   bif r1 then
    some (.ret i1)
   else
    qL s f_0 n (W64 (i1 + 1))
  else
   some (.nxt i1)

def qaR (n : Nat) (s : (List qV)) (f_0 : qV) : Option Int :=
 (qL s f_0 n 0).bind fun o => match o with
 | .ret r => some r
 | .nxt _ =>
  some (-1)

theorem qeQ {n : Nat} {w : World} {s : (List qV)} {f_0 : qV} {cs1 : List Value} (ha1 : GoT.R w (old w) s cs1) {p2 : Option Addr} (ha2 : GoT.R w (old w) (some f_0) [.pointer p2]) {r : Int} (hF : qaR n s f_0 = some r) : RetV Tryz.prog 191 [GoT.v (List qV) cs1, .func (.func 231) #[] #[.pointer p2]] w r := by
 obtain ⟨p1, k1, rfl, s1⟩ := ha1
 obtain ⟨b1, o_1, cs2, rfl, -, hr1, hc1⟩ := PtR.get ha2 rfl
 obtain ⟨p3, k2, p4, k3, rfl, s2, s3⟩ := qaH hr1
 refine qe Tryz.func191 rfl (m := 19) rfl rfl (fun h => ?_)
 rw [qaR] at hF
 refine zSR (zp1 rfl (zNSSR (zp3 rfl (qb ?_))))
 obtain ⟨o1, hF, hK1⟩ := qd hF
 refine qw (qP [(0, _), (1, _), (7, _), (8, _)] ⟨rfl, rfl, rfl, rfl, trivial⟩ ?_)
 refine qH (fun m e w' => ∃ (i1 : Int), qL s f_0 m i1 = some o1 ∧ e = [(0, .slice p1 s.length k1), (1, .func (.func 231) #[] #[.pointer (some ⟨b1, o_1, none⟩)]), (7, .int .i64 (s.length : Int)), (8, .int .i64 i1)] ∧ SH w w' []) n ⟨_, hF, rfl, h⟩ ?_
 rintro m1 e1 w1 ⟨i1, hF, rfl, h⟩
 rcases m1 with _ | m1
 ·rw [qL] at hF
  cases hF
 rw [qL] at hF
 refine zSR (zp1 rfl (zNS ?_))
 refine qr rfl hF ?_ ?_ <;> intro hF
 ·refine zKSBSR (zp2 rfl (zNSR (zp2 rfl ?_)))
  refine zp1 rfl ?_
  obtain ⟨y1, hy1, hF⟩ := qd hF
  have he1 := qf hy1
  obtain ⟨b2, o_2, q1, cs3, hp1, hq1, -, hr2, hc3⟩ := s1.at hy1
  obtain ⟨p5, k4, p6, k5, rfl, s4, s5⟩ := qaH hr2
  refine zxe hp1 hq1 he1 rfl (zc 0 (hc3.below h.below) rfl ?_)
  obtain ⟨r1, hr3, hF⟩ := qd hF
  refine qp r1 h call231 (qjH (qgl y1 (h.oldS s4) (h.oldS s5)) (h.old ha2) hr3) rfl rfl rfl rfl ?_
  intro w2 h
  refine qb ?_
  refine qr rfl hF ?_ ?_ <;> intro hF
  ·refine zSR (zp2 rfl (qb ?_))
   obtain rfl := qh hF; replace hF := hK1
   exact qaA qc h hF ⟨rfl, trivial⟩
  exact zKER (zp2 rfl (qb (qA m1 [(0, _), (1, _), (7, _), (8, _)] (Nat.lt_succ_self m1) ⟨rfl, rfl, rfl, rfl, trivial⟩ ⟨_, hF, rfl, h⟩)))
 refine qG rfl ?_
 obtain rfl := qh hF; replace hF := hK1
 exact zSR (zp1 rfl (qb (qaA qc h hF ⟨rfl, trivial⟩)))

def qak (n : Nat) (s : (List qV)) (f_0 : qV) : Option Bool :=
 (qaR n s f_0).bind fun r1 =>
 some (decide (r1 ≥ 0))

theorem qet {n : Nat} {w : World} {s : (List qV)} {f_0 : qV} {cs1 : List Value} (ha1 : GoT.R w (old w) s cs1) {p2 : Option Addr} (ha2 : GoT.R w (old w) (some f_0) [.pointer p2]) {r : Bool} (hF : qak n s f_0 = some r) : RetV Tryz.prog 160 [GoT.v (List qV) cs1, .func (.func 231) #[] #[.pointer p2]] w r := by
 obtain ⟨p1, k1, rfl, s1⟩ := ha1
 obtain ⟨b1, o_1, cs2, rfl, -, hr1, hc1⟩ := PtR.get ha2 rfl
 obtain ⟨p3, k2, p4, k3, rfl, s2, s3⟩ := qaH hr1
 refine qe Tryz.func160 rfl (m := 9) rfl rfl (fun h => ?_)
 rw [qak] at hF
 refine zSR (zp1 rfl (zNSR (zp2 rfl ?_)))
 obtain ⟨r1, hr2, hF⟩ := qd hF
 refine qR r1 h call191 (qeQ ⟨_, _, rfl, (h.oldS s1)⟩ (h.old ha2) hr2) rfl rfl rfl rfl ?_
 intro w1 h
 exact zp2 rfl (qb (qy qc h hF ⟨rfl, trivial⟩))

def qbC (c : qC) : Nat → Int → Option (Flow Bool Int)
 | 0, _ => none
 | n + 1, i1 =>
  bif decide (i1 < (c.Arcs.length : Int)) then
   (idx c.Arcs i1).bind fun y1 =>
   (qfU n c y1).bind fun r1 =>
   bif (!r1) then
    some (.ret false)
   else
    (subS c.Arcs 0 i1).bind fun x1 =>
    (qak n x1 y1).bind fun r2 =>
    bif r2 then
     some (.ret false)
    else
     qbC c n (W64 (i1 + 1))
  else
   some (.nxt i1)

def qe6 (n : Nat) (c : qC) : Option Bool :=
 (qbC c n 0).bind fun o => match o with
 | .ret r => some r
 | .nxt _ =>
  some (decide ((c.Arcs.length : Int) ≤ 8))

theorem qko {n : Nat} {w : World} {c : qC} {cs1 : List Value} (ha1 : GoT.R w (old w) c cs1) {r : Bool} (hF : qe6 n c = some r) : RetV Tryz.prog 220 [GoT.v qC cs1] w r := by
 obtain ⟨p1, k1, p2, k2, p3, k3, rfl, s1, s2, s3⟩ := qY ha1
 refine qe Tryz.func220 rfl (m := 30) rfl rfl (fun h => ?_)
 rw [qe6] at hF
 refine zSR (qN h rfl rfl ?_)
 intro w1 bb1 h
 refine zp1 rfl (zNSSR (zp1 rfl (zl 0 3 h rfl (zp2 rfl (qb ?_)))))
 obtain ⟨o1, hF, hK1⟩ := qd hF
 refine qw (qP [(1, _), (6, _), (7, _), (8, _)] ⟨rfl, rfl, rfl, rfl, trivial⟩ ?_)
 refine qH (fun m e w' => ∃ (i1 : Int), qbC c m i1 = some o1 ∧ e = [(1, .pointer (some ⟨bb1, 0, none⟩)), (6, .slice p2 c.Arcs.length k2), (7, .int .i64 (c.Arcs.length : Int)), (8, .int .i64 i1)] ∧ SH w w' [Ch.box bb1 [.string c.Name, .int .i64 c.Kind, .slice p1 c.Pins.length k1, .slice p2 c.Arcs.length k2, .slice p3 c.Truth.length k3, .int .i64 c.Leak, .int .i64 c.Energy] 183]) n ⟨_, hF, rfl, h⟩ ?_
 rintro m1 e1 w2 ⟨i1, hF, rfl, h⟩
 rcases m1 with _ | m1
 ·rw [qbC] at hF
  cases hF
 rw [qbC] at hF
 refine zSR (zp1 rfl (zNS ?_))
 refine qr rfl hF ?_ ?_ <;> intro hF
 ·refine zKSBSR (zp1 rfl ?_)
  obtain ⟨y1, hy1, hF⟩ := qd hF
  have he1 := qf hy1
  obtain ⟨b1, o_1, q1, cs2, hp1, hq1, -, hr1, hc2⟩ := s2.at hy1
  obtain ⟨p4, k4, p5, k5, rfl, s4, s5⟩ := qaH hr1
  refine zxe hp1 hq1 he1 rfl (zc 0 (hc2.below h.below) rfl (qaa qc h rfl rfl rfl ?_))
  intro w3 bb2 h
  refine zp1 rfl (zs 0 h rfl ?_)
  intro w4 h
  refine zNSR (zl 1 0 h rfl (zl 0 0 h rfl ?_))
  obtain ⟨r1, hr2, hF⟩ := qd hF
  refine qp r1 h call230 (qk6 (h.old ha1) (qgl y1 (h.oldS s4) (h.oldS s5)) hr2) rfl rfl rfl rfl ?_
  intro w5 h
  refine zp2 rfl ?_
  by_cases hc3 : (!r1) = true
  ·replace hF := bifT hc3 hF
   refine qE hc3 (t := 17) rfl (zn5 rfl (zn1 rfl (zp1 rfl (qb (qe1 rfl rfl (zSR ?_))))))
   refine zp1 rfl (qb ?_)
   obtain rfl := qh hF; replace hF := hK1
   exact qy qc h hF ⟨rfl, trivial⟩
  replace hc3 := zb hc3
  replace hF := bifF hc3 hF
  refine qD hc3 (t := 17) rfl (qa rfl (zp1 rfl (qa rfl (zl 1 3 h rfl (qa rfl (zp1 rfl (qa rfl ?_)))))))
  obtain ⟨x1, hx1, hF⟩ := qd hF
  obtain ⟨p6, k6, hp2, hk1, hl1, g1⟩ := qpz (h.oldS s2) hx1
  refine r_v (qm5 qc rfl rfl rfl (qp1 g1 rfl) hp2 hk1 hl1 rfl rfl rfl rfl) rfl ?_
  have s6 := qpN s2 hx1 hp2 hk1
  refine qa rfl (zp1 rfl (qa rfl ?_))
  obtain ⟨r2, hr3, hF⟩ := qd hF
  refine qp r2 h call160 (qet ⟨_, _, rfl, (h.oldS s6)⟩ (qiu (x := y1) 0 h rfl (qgl y1 (h.oldS s4) (h.oldS s5))) hr3) rfl rfl rfl rfl ?_
  intro w6 h
  refine zp1 rfl (qb ?_)
  refine qr rfl hF ?_ ?_ <;> intro hF
  ·refine zSR (zp1 rfl (qb ?_))
   obtain rfl := qh hF; replace hF := hK1
   exact qy qc h hF ⟨rfl, trivial⟩
  refine zKER (zp2 rfl (qb ?_))
  replace h := h.pick [1] rfl
  exact qA m1 [(1, _), (6, _), (7, _), (8, _)] (Nat.lt_succ_self m1) ⟨rfl, rfl, rfl, rfl, trivial⟩ ⟨_, hF, rfl, h⟩
 refine qG rfl ?_
 obtain rfl := qh hF; replace hF := hK1
 exact zSR (zp1 rfl (zl 0 3 h rfl (zp3 rfl (qb (qy qc h hF ⟨rfl, trivial⟩)))))

def qgY (_ : Nat) (a : qV) (v0 : Int) : Option Bool :=
 some (a.Kind == v0)

theorem qlc {n : Nat} {w : World} {a : qV} {v0 : Int} {cs1 : List Value} (ha1 : GoT.R w (old w) a cs1) {p3 : Option Addr} (ha2 : GoT.R w (old w) (some v0) [.pointer p3]) {r : Bool} (hF : qgY n a v0 = some r) : RetV Tryz.prog 247 [GoT.v qV cs1, .pointer p3] w r := by
 obtain ⟨p1, k1, p2, k2, rfl, s1, s2⟩ := qaH ha1
 obtain ⟨b1, o_1, cs2, rfl, -, hr1, hc1⟩ := PtR.get ha2 rfl
 obtain rfl := hr1
 refine qe Tryz.func247 rfl (m := 8) rfl rfl (fun h => ?_)
 rw [qgY] at hF
 refine zSR (qN h rfl rfl ?_)
 intro w1 bb1 h
 exact zp1 rfl (zNSR (zp1 rfl (zl 0 0 h rfl (zc 0 (hc1.below h.below) rfl (zp2 rfl (qb (qy qc h hF ⟨rfl, trivial⟩)))))))

def qQ (s : (List qV)) (f_0 : Int) : Nat → Int → Option (Flow Int Int)
 | 0, _ => none
 | n + 1, i1 =>
  bif decide (i1 < (s.length : Int)) then
   (idx s i1).bind fun y1 =>
   (qgY n y1 f_0).bind fun r1 =>
   bif r1 then
    some (.ret i1)
   else
    qQ s f_0 n (W64 (i1 + 1))
  else
   some (.nxt i1)

def qa7 (n : Nat) (s : (List qV)) (f_0 : Int) : Option Int :=
 (qQ s f_0 n 0).bind fun o => match o with
 | .ret r => some r
 | .nxt _ =>
  some (-1)

theorem qfo {n : Nat} {w : World} {s : (List qV)} {f_0 : Int} {cs1 : List Value} (ha1 : GoT.R w (old w) s cs1) {p2 : Option Addr} (ha2 : GoT.R w (old w) (some f_0) [.pointer p2]) {r : Int} (hF : qa7 n s f_0 = some r) : RetV Tryz.prog 191 [GoT.v (List qV) cs1, .func (.func 247) #[] #[.pointer p2]] w r := by
 obtain ⟨p1, k1, rfl, s1⟩ := ha1
 obtain ⟨b1, o_1, cs2, rfl, -, hr1, hc1⟩ := PtR.get ha2 rfl
 obtain rfl := hr1
 refine qe Tryz.func191 rfl (m := 19) rfl rfl (fun h => ?_)
 rw [qa7] at hF
 refine zSR (zp1 rfl (zNSSR (zp3 rfl (qb ?_))))
 obtain ⟨o1, hF, hK1⟩ := qd hF
 refine qw (qP [(0, _), (1, _), (7, _), (8, _)] ⟨rfl, rfl, rfl, rfl, trivial⟩ ?_)
 refine qH (fun m e w' => ∃ (i1 : Int), qQ s f_0 m i1 = some o1 ∧ e = [(0, .slice p1 s.length k1), (1, .func (.func 247) #[] #[.pointer (some ⟨b1, o_1, none⟩)]), (7, .int .i64 (s.length : Int)), (8, .int .i64 i1)] ∧ SH w w' []) n ⟨_, hF, rfl, h⟩ ?_
 rintro m1 e1 w1 ⟨i1, hF, rfl, h⟩
 rcases m1 with _ | m1
 ·rw [qQ] at hF
  cases hF
 rw [qQ] at hF
 refine zSR (zp1 rfl (zNS ?_))
 refine qr rfl hF ?_ ?_ <;> intro hF
 ·refine zKSBSR (zp2 rfl (zNSR (zp2 rfl ?_)))
  refine zp1 rfl ?_
  obtain ⟨y1, hy1, hF⟩ := qd hF
  have he1 := qf hy1
  obtain ⟨b2, o_2, q1, cs3, hp1, hq1, -, hr2, hc3⟩ := s1.at hy1
  obtain ⟨p3, k2, p4, k3, rfl, s2, s3⟩ := qaH hr2
  refine zxe hp1 hq1 he1 rfl (zc 0 (hc3.below h.below) rfl ?_)
  obtain ⟨r1, hr3, hF⟩ := qd hF
  refine qp r1 h call247 (qlc (qgl y1 (h.oldS s2) (h.oldS s3)) (h.old ha2) hr3) rfl rfl rfl rfl ?_
  intro w2 h
  refine qb ?_
  refine qr rfl hF ?_ ?_ <;> intro hF
  ·refine zSR (zp2 rfl (qb ?_))
   obtain rfl := qh hF; replace hF := hK1
   exact qaA qc h hF ⟨rfl, trivial⟩
  exact zKER (zp2 rfl (qb (qA m1 [(0, _), (1, _), (7, _), (8, _)] (Nat.lt_succ_self m1) ⟨rfl, rfl, rfl, rfl, trivial⟩ ⟨_, hF, rfl, h⟩)))
 refine qG rfl ?_
 obtain rfl := qh hF; replace hF := hK1
 exact zSR (zp1 rfl (qb (qaA qc h hF ⟨rfl, trivial⟩)))

def qaS (n : Nat) (s : (List qV)) (f_0 : Int) : Option Bool :=
 (qa7 n s f_0).bind fun r1 =>
 some (decide (r1 ≥ 0))

theorem qeZ {n : Nat} {w : World} {s : (List qV)} {f_0 : Int} {cs1 : List Value} (ha1 : GoT.R w (old w) s cs1) {p2 : Option Addr} (ha2 : GoT.R w (old w) (some f_0) [.pointer p2]) {r : Bool} (hF : qaS n s f_0 = some r) : RetV Tryz.prog 160 [GoT.v (List qV) cs1, .func (.func 247) #[] #[.pointer p2]] w r := by
 obtain ⟨p1, k1, rfl, s1⟩ := ha1
 obtain ⟨b1, o_1, cs2, rfl, -, hr1, hc1⟩ := PtR.get ha2 rfl
 obtain rfl := hr1
 refine qe Tryz.func160 rfl (m := 9) rfl rfl (fun h => ?_)
 rw [qaS] at hF
 refine zSR (zp1 rfl (zNSR (zp2 rfl ?_)))
 obtain ⟨r1, hr2, hF⟩ := qd hF
 refine qR r1 h call191 (qfo ⟨_, _, rfl, (h.oldS s1)⟩ (h.old ha2) hr2) rfl rfl rfl rfl ?_
 intro w1 h
 exact zp2 rfl (qb (qy qc h hF ⟨rfl, trivial⟩))

def qc5 (n : Nat) (c : qC) (kind : Int) : Option Bool :=
 (qaS n c.Arcs kind).bind fun r1 =>
 some r1

theorem qey {n : Nat} {w : World} {c : qC} {kind : Int} {cs1 : List Value} (ha1 : GoT.R w (old w) c cs1) {r : Bool} (hF : qc5 n c kind = some r) : RetV Tryz.prog 232 [GoT.v qC cs1, .int .i64 kind] w r := by
 obtain ⟨p1, k1, p2, k2, p3, k3, rfl, s1, s2, s3⟩ := qY ha1
 refine qe Tryz.func232 rfl (m := 9) rfl rfl (fun h => ?_)
 rw [qc5] at hF
 refine zSR (qN h rfl rfl ?_)
 intro w1 bb1 h
 refine qN h rfl rfl ?_
 intro w2 bb2 h
 refine zp1 rfl (zNSR (zp1 rfl (zl 1 3 h rfl (zp1 rfl ?_))))
 obtain ⟨r1, hr1, hF⟩ := qd hF
 refine qp r1 h call160 (qeZ ⟨_, _, rfl, (h.oldS s2)⟩ (qiu (x := kind) 0 h rfl rfl) hr1) rfl rfl rfl rfl ?_
 intro w3 h
 exact zp1 rfl (qb (qy qc h hF ⟨rfl, trivial⟩))

def qaV (a_0 : qC) : Nat → Int → Int → Option (Int × Int)
 | 0, _, _ => none
 | n + 1, i1, i2 =>
  bif decide (i2 < (a_0.Pins.length : Int)) then
   (idx a_0.Pins i2).bind fun y1 =>
   bif y1.Clock then
    qaV a_0 n (W64 (i1 + 1)) (W64 (i2 + 1))
   else
    qaV a_0 n i1 (W64 (i2 + 1))
  else
   some (i1, i2)

def qeB (n : Nat) (a_0 : qC) : Option Bool :=
 (qaV a_0 n 0 0).bind fun o => match o with
 | (i1, _) =>
  bif (a_0.Kind == 1) then
   bif (i1 == 0) then
    (qck n a_0).bind fun r1 =>
    (shlS 1 r1).bind fun y2 =>
    bif ((a_0.Truth.length : Int) == y2) then
     (qby n a_0.Truth 0 1).bind fun r2 =>
     some r2
    else
     some false
   else
    some false
  else
   bif (a_0.Kind == 2) then
    bif (i1 == 1) then
     bif ((a_0.Truth.length : Int) == 0) then
      (qc5 n a_0 1).bind fun r3 =>
      bif (!r3) then
       (qc5 n a_0 2).bind fun r4 =>
       (qc5 n a_0 3).bind fun r5 =>
       some (!(r4 == r5))
      else
       some false
     else
      some false
    else
     some false
   else
    bif (a_0.Kind == 3) then
     bif (i1 == 1) then
      bif ((a_0.Truth.length : Int) == 0) then
       (qc5 n a_0 1).bind fun r6 =>
       bif r6 then
        (qc5 n a_0 2).bind fun r7 =>
        bif r7 then
         (qc5 n a_0 3).bind fun r8 =>
         some (!r8)
        else
         some false
       else
        some false
      else
       some false
     else
      some false
    else
     some false

theorem qjY {n : Nat} {w : World} {a_0 : qC} {cs1 : List Value} (ha1 : GoT.R w (old w) a_0 cs1) {r : Bool} (hF : qeB n a_0 = some r) : RetV Tryz.prog 221 [GoT.v qC cs1] w r := by
 obtain ⟨p1, k1, p2, k2, p3, k3, rfl, s1, s2, s3⟩ := qY ha1
 refine qe Tryz.func221 rfl (m := 83) rfl rfl (fun h => ?_)
 rw [qeB] at hF
 refine zSR (qN h rfl rfl ?_)
 intro w1 bb1 h
 refine zp1 rfl (zNSR (zp1 rfl (zNSSR (zp1 rfl (zl 0 2 h rfl (zp1 rfl ?_))))))
 refine zp1 rfl (qb ?_)
 obtain ⟨o1, hF, hK1⟩ := qd hF
 refine qw (qP [(1, _), (3, _), (7, _), (8, _), (9, _)] ⟨rfl, rfl, rfl, rfl, rfl, trivial⟩ ?_)
 refine qH (fun m e w' => ∃ (i1 : Int) (i2 : Int), qaV a_0 m i1 i2 = some o1 ∧ e = [(1, .pointer (some ⟨bb1, 0, none⟩)), (3, .int .i64 i1), (7, .slice p1 a_0.Pins.length k1), (8, .int .i64 (a_0.Pins.length : Int)), (9, .int .i64 i2)] ∧ SH w w' [Ch.box bb1 [.string a_0.Name, .int .i64 a_0.Kind, .slice p1 a_0.Pins.length k1, .slice p2 a_0.Arcs.length k2, .slice p3 a_0.Truth.length k3, .int .i64 a_0.Leak, .int .i64 a_0.Energy] 183]) n ⟨_, _, hF, rfl, h⟩ ?_
 rintro m1 e1 w2 ⟨i1, i2, hF, rfl, h⟩
 rcases m1 with _ | m1
 ·rw [qaV] at hF
  cases hF
 rw [qaV] at hF
 refine zSR (zp1 rfl (zNS ?_))
 refine qr rfl hF ?_ ?_ <;> intro hF
 ·refine zKSBSR ?_
  obtain ⟨y1, hy1, hF⟩ := qd hF
  have he1 := qf hy1
  obtain ⟨b1, o_1, q1, cs2, hp1, hq1, -, hr1, hc2⟩ := s1.at hy1
  obtain rfl := qa5 hr1
  refine zxe hp1 hq1 he1 rfl (zc 0 (hc2.below h.below) rfl (qaa qc h rfl rfl rfl ?_))
  intro w3 bb2 h
  refine zs 0 h rfl ?_
  intro w4 h
  refine zNSR (zp1 rfl (zl 0 3 h rfl (qb ?_)))
  refine qr rfl hF ?_ ?_ <;> intro hF
  ·refine qB (zp3 rfl (zNER (zp2 rfl (qb ?_))))
   replace h := h.pick [1] rfl
   exact qA m1 [(1, _), (3, _), (7, _), (8, _), (9, _)] (Nat.lt_succ_self m1) ⟨rfl, rfl, rfl, rfl, rfl, trivial⟩ ⟨_, _, hF, rfl, h⟩
  refine zKER (zp2 rfl (qb ?_))
  replace h := h.pick [1] rfl
  exact qA m1 [(1, _), (3, _), (7, _), (8, _), (9, _)] (Nat.lt_succ_self m1) ⟨rfl, rfl, rfl, rfl, rfl, trivial⟩ ⟨_, _, hF, rfl, h⟩
 refine qG rfl ?_
 obtain rfl := qh hF; replace hF := hK1
 refine zSSR (zp1 rfl (zl 0 1 h rfl (qb (zBSR (zp2 rfl (qb ?_))))))
 refine qr rfl hF ?_ ?_ <;> intro hF
 ·refine qbq ?_
  refine qcN rfl (by kernel_rfl) ?_
  refine zd3 rfl ?_
  by_cases hc5 : (i1 == 0) = true
  ·replace hF := bifT hc5 hF
   refine qdc hc5 (t := 24) rfl (qi rfl (zd1 rfl (qi rfl ?_)))
   refine zdl 0 4 h rfl ?_
   refine qi rfl (zd1 rfl (qi rfl ?_))
   refine zdl 0 0 h rfl ?_
   refine qi rfl ?_
   obtain ⟨r1, hr2, hF⟩ := qd hF
   refine qcO r1 (vsI _) call163 (fun _ hb => qfj ((h.ext hb).old ha1) hr2) rfl rfl rfl rfl ?_
   refine qi rfl ?_
   obtain ⟨y2, hx1, hF⟩ := qd hF
   obtain ⟨g1, hx1⟩ := qn1 hx1
   refine d_v (fun _ hb => qsE g1 rfl rfl) rfl ?_
   rw [hx1]
   refine qi rfl (zd3 rfl ?_)
   by_cases hc6 : ((a_0.Truth.length : Int) == y2) = true
   ·replace hF := bifT hc6 hF
    refine qdc hc6 (t := 33) rfl (qi rfl (zd1 rfl (qi rfl ?_)))
    refine zdl 0 4 h rfl ?_
    refine qi rfl ?_
    obtain ⟨r2, hr3, hF⟩ := qd hF
    refine qcO r2 (vsB _) call112 (fun _ hb => qcC ⟨_, _, rfl, ((h.ext hb).oldS s3)⟩ hr3) rfl rfl rfl rfl ?_
    refine zd2 rfl ?_
    refine qbj (fun w5 hb => ?_)
    replace h := h.ext hb
    clear hb
    exact qy qc h hF ⟨rfl, trivial⟩
   replace hc6 := zb hc6
   replace hF := bifF hc6 hF
   refine qdk hc6 (t := 33) rfl (qk rfl rfl rfl (qk rfl rfl rfl (qk rfl rfl rfl (zd2 rfl ?_))))
   refine qbj (fun w6 hb => ?_)
   replace h := h.ext hb
   clear hb
   exact qy qc h hF ⟨rfl, trivial⟩
  replace hc5 := zb hc5
  replace hF := bifF hc5 hF
  refine qdk hc5 (t := 24) rfl (qk rfl rfl rfl (qk rfl rfl rfl (qk rfl rfl rfl (qk rfl rfl rfl (qk rfl rfl rfl (qk rfl rfl rfl (qk rfl rfl rfl (zd2 rfl (qk rfl rfl rfl (qk rfl rfl rfl ?_))))))))))
  refine qk rfl rfl rfl (zd2 rfl ?_)
  refine qbj (fun w7 hb => ?_)
  replace h := h.ext hb
  clear hb
  exact qy qc h hF ⟨rfl, trivial⟩
 refine zSR (zp2 rfl (qb ?_))
 refine qr rfl hF ?_ ?_ <;> intro hF
 ·refine qbq ?_
  refine qcN rfl (by kernel_rfl) ?_
  refine zd3 rfl ?_
  by_cases hc8 : (i1 == 1) = true
  ·replace hF := bifT hc8 hF
   refine qdc hc8 (t := 42) rfl (qi rfl (zd1 rfl (qi rfl ?_)))
   refine zdl 0 4 h rfl ?_
   refine qi rfl (zd1 rfl (qi rfl (zd3 rfl ?_)))
   by_cases hc9 : ((a_0.Truth.length : Int) == 0) = true
   ·replace hF := bifT hc9 hF
    refine qdc hc9 (t := 48) rfl (qi rfl ?_)
    refine zdl 0 0 h rfl ?_
    refine qi rfl ?_
    obtain ⟨r3, hr4, hF⟩ := qd hF
    refine qcO r3 (vsB _) call232 (fun _ hb => qey ((h.ext hb).old ha1) hr4) rfl rfl rfl rfl ?_
    refine qi rfl (zd3 rfl ?_)
    by_cases hc10 : (!r3) = true
    ·replace hF := bifT hc10 hF
     refine qdc hc10 (t := 53) rfl (qi rfl ?_)
     refine zdl 0 0 h rfl ?_
     refine qi rfl ?_
     obtain ⟨r4, hr5, hF⟩ := qd hF
     refine qcO r4 (vsB _) call232 (fun _ hb => qey ((h.ext hb).old ha1) hr5) rfl rfl rfl rfl ?_
     refine qi rfl ?_
     refine zdl 0 0 h rfl ?_
     refine qi rfl ?_
     obtain ⟨r5, hr6, hF⟩ := qd hF
     refine qcO r5 (vsB _) call232 (fun _ hb => qey ((h.ext hb).old ha1) hr6) rfl rfl rfl rfl ?_
     refine qi rfl (zd3 rfl ?_)
     refine qbj (fun w8 hb => ?_)
     replace h := h.ext hb
     clear hb
     exact qy qc h hF ⟨rfl, trivial⟩
    replace hc10 := zb hc10
    replace hF := bifF hc10 hF
    refine qdk hc10 (t := 53) rfl (qk rfl rfl rfl (qk rfl rfl rfl (qk rfl rfl rfl (qk rfl rfl rfl (qk rfl rfl rfl (zd2 rfl ?_))))))
    refine qbj (fun w9 hb => ?_)
    replace h := h.ext hb
    clear hb
    exact qy qc h hF ⟨rfl, trivial⟩
   replace hc9 := zb hc9
   replace hF := bifF hc9 hF
   refine qdk hc9 (t := 48) rfl (qk rfl rfl rfl (qk rfl rfl rfl (qk rfl rfl rfl (zd2 rfl (qk rfl rfl rfl (qk rfl rfl rfl (qk rfl rfl rfl (qk rfl rfl rfl (qk rfl rfl rfl (zd1 rfl ?_))))))))))
   refine zd1 rfl ?_
   refine qbj (fun w10 hb => ?_)
   replace h := h.ext hb
   clear hb
   exact qy qc h hF ⟨rfl, trivial⟩
  replace hc8 := zb hc8
  replace hF := bifF hc8 hF
  refine qdk hc8 (t := 42) rfl (qk rfl rfl rfl (qk rfl rfl rfl (qk rfl rfl rfl (qk rfl rfl rfl (zd2 rfl (qk rfl rfl rfl (qk rfl rfl rfl (qk rfl rfl rfl (zd2 rfl ?_)))))))))
  refine qk rfl rfl rfl (qk rfl rfl rfl (qk rfl rfl rfl (qk rfl rfl rfl (qk rfl rfl rfl (zd2 rfl ?_)))))
  refine qbj (fun w11 hb => ?_)
  replace h := h.ext hb
  clear hb
  exact qy qc h hF ⟨rfl, trivial⟩
 refine zSR (zp2 rfl (qb ?_))
 refine qr rfl hF ?_ ?_ <;> intro hF
 ·refine zSR (zp3 rfl ?_)
  by_cases hc12 : (i1 == 1) = true
  ·replace hF := bifT hc12 hF
   refine qE hc12 (t := 64) rfl (qa rfl (zp1 rfl (qa rfl (zl 0 4 h rfl (qa rfl (zp1 rfl (qa rfl (zp3 rfl ?_))))))))
   by_cases hc13 : ((a_0.Truth.length : Int) == 0) = true
   ·replace hF := bifT hc13 hF
    refine qE hc13 (t := 70) rfl (qa rfl (zl 0 0 h rfl (qa rfl ?_)))
    obtain ⟨r6, hr7, hF⟩ := qd hF
    refine qp r6 h call232 (qey (h.old ha1) hr7) rfl rfl rfl rfl ?_
    intro w12 h
    refine zp2 rfl ?_
    by_cases hc14 : r6 = true
    ·replace hF := bifT hc14 hF
     refine qE hc14 (t := 74) rfl (qa rfl (zl 0 0 h rfl (qa rfl ?_)))
     obtain ⟨r7, hr8, hF⟩ := qd hF
     refine qp r7 h call232 (qey (h.old ha1) hr8) rfl rfl rfl rfl ?_
     intro w13 h
     refine zp2 rfl ?_
     by_cases hc15 : r7 = true
     ·replace hF := bifT hc15 hF
      refine qE hc15 (t := 78) rfl (qa rfl (zl 0 0 h rfl (qa rfl ?_)))
      obtain ⟨r8, hr9, hF⟩ := qd hF
      refine qp r8 h call232 (qey (h.old ha1) hr9) rfl rfl rfl rfl ?_
      intro w14 h
      exact qa rfl (zp3 rfl (qb (qy qc h hF ⟨rfl, trivial⟩)))
     replace hc15 := zb hc15
     replace hF := bifF hc15 hF
     exact qD hc15 (t := 78) rfl (zn3 rfl (zp2 rfl (qb (qy qc h hF ⟨rfl, trivial⟩))))
    replace hc14 := zb hc14
    replace hF := bifF hc14 hF
    exact qD hc14 (t := 74) rfl (zn2 rfl (zp2 rfl (zn3 rfl (zp2 rfl (qb (qy qc h hF ⟨rfl, trivial⟩))))))
   replace hc13 := zb hc13
   replace hF := bifF hc13 hF
   refine qD hc13 (t := 70) rfl (zn2 rfl (zp2 rfl (zn2 rfl (zp2 rfl (zn3 rfl ?_)))))
   exact zp2 rfl (qb (qy qc h hF ⟨rfl, trivial⟩))
  replace hc12 := zb hc12
  replace hF := bifF hc12 hF
  refine qD hc12 (t := 64) rfl (zn4 rfl (zp2 rfl (zn2 rfl (zp2 rfl (zn1 rfl ?_)))))
  exact zn1 rfl (zp2 rfl (zn3 rfl (zp2 rfl (qb (qy qc h hF ⟨rfl, trivial⟩)))))
 exact zKE (zSR (zp1 rfl (qb (qy qc h hF ⟨rfl, trivial⟩))))

def qiq (n : Nat) (c : qC) : Option Bool :=
 (qhh n c.Name).bind fun r1 =>
 bif r1 then
  (qhB n c.Pins).bind fun r2 =>
  bif r2 then
   (qe6 n c).bind fun r3 =>
   bif r3 then
    (qaX n c.Leak 0 100000).bind fun r4 =>
    bif r4 then
     (qaX n c.Energy 0 100000).bind fun r5 =>
     bif r5 then
      (qeB n c).bind fun r6 =>
      some r6
     else
      some false
    else
     some false
   else
    some false
  else
   some false
 else
  some false

theorem qmL {n : Nat} {w : World} {c : qC} {cs1 : List Value} (ha1 : GoT.R w (old w) c cs1) {r : Bool} (hF : qiq n c = some r) : RetV Tryz.prog 204 [GoT.v qC cs1] w r := by
 obtain ⟨p1, k1, p2, k2, p3, k3, rfl, s1, s2, s3⟩ := qY ha1
 refine qe Tryz.func204 rfl (m := 29) rfl rfl (fun h => ?_)
 rw [qiq] at hF
 refine zSR (qN h rfl rfl ?_)
 intro w1 bb1 h
 refine zp1 rfl (zNSR (zp1 rfl (zl 0 0 h rfl ?_)))
 obtain ⟨r1, hr1, hF⟩ := qd hF
 refine qp r1 h call218 (qj8 hr1) rfl rfl rfl rfl ?_
 intro w2 h
 refine zp1 rfl ?_
 by_cases hc1 : r1 = true
 ·replace hF := bifT hc1 hF
  refine qE hc1 (t := 6) rfl (qa rfl (zp1 rfl (qa rfl (zl 0 2 h rfl (qa rfl ?_)))))
  obtain ⟨r2, hr2, hF⟩ := qd hF
  refine qp r2 h call219 (qmt ⟨_, _, rfl, (h.oldS s1)⟩ hr2) rfl rfl rfl rfl ?_
  intro w3 h
  refine zp2 rfl ?_
  by_cases hc2 : r2 = true
  ·replace hF := bifT hc2 hF
   refine qE hc2 (t := 11) rfl (qa rfl (zl 0 0 h rfl (qa rfl ?_)))
   obtain ⟨r3, hr3, hF⟩ := qd hF
   refine qp r3 h call220 (qko (h.old ha1) hr3) rfl rfl rfl rfl ?_
   intro w4 h
   refine zp2 rfl ?_
   by_cases hc3 : r3 = true
   ·replace hF := bifT hc3 hF
    refine qE hc3 (t := 15) rfl (qa rfl (zp1 rfl (qa rfl (zl 0 5 h rfl (qa rfl ?_)))))
    obtain ⟨r4, hr4, hF⟩ := qd hF
    refine qp r4 h call86 (qaM hr4) rfl rfl rfl rfl ?_
    intro w5 h
    refine zp2 rfl ?_
    by_cases hc4 : r4 = true
    ·replace hF := bifT hc4 hF
     refine qE hc4 (t := 20) rfl (qa rfl (zp1 rfl (qa rfl (zl 0 6 h rfl (qa rfl ?_)))))
     obtain ⟨r5, hr5, hF⟩ := qd hF
     refine qp r5 h call86 (qaM hr5) rfl rfl rfl rfl ?_
     intro w6 h
     refine zp2 rfl ?_
     by_cases hc5 : r5 = true
     ·replace hF := bifT hc5 hF
      refine qE hc5 (t := 25) rfl (qa rfl (zl 0 0 h rfl (qa rfl ?_)))
      obtain ⟨r6, hr6, hF⟩ := qd hF
      refine qp r6 h call221 (qjY (h.old ha1) hr6) rfl rfl rfl rfl ?_
      intro w7 h
      exact zp2 rfl (qb (qy qc h hF ⟨rfl, trivial⟩))
     replace hc5 := zb hc5
     replace hF := bifF hc5 hF
     exact qD hc5 (t := 25) rfl (zn2 rfl (zp2 rfl (qb (qy qc h hF ⟨rfl, trivial⟩))))
    replace hc4 := zb hc4
    replace hF := bifF hc4 hF
    exact qD hc4 (t := 20) rfl (zn3 rfl (zp2 rfl (zn2 rfl (zp2 rfl (qb (qy qc h hF ⟨rfl, trivial⟩))))))
   replace hc3 := zb hc3
   replace hF := bifF hc3 hF
   refine qD hc3 (t := 15) rfl (zn3 rfl (zp2 rfl (zn3 rfl (zp2 rfl (zn1 rfl ?_)))))
   exact zn1 rfl (zp2 rfl (qb (qy qc h hF ⟨rfl, trivial⟩)))
  replace hc2 := zb hc2
  replace hF := bifF hc2 hF
  refine qD hc2 (t := 11) rfl (zn2 rfl (zp2 rfl (zn3 rfl (zp2 rfl (zn2 rfl ?_)))))
  exact zn1 rfl (zp2 rfl (zn2 rfl (zp2 rfl (qb (qy qc h hF ⟨rfl, trivial⟩)))))
 replace hc1 := zb hc1
 replace hF := bifF hc1 hF
 refine qD hc1 (t := 6) rfl (zn3 rfl (zp2 rfl (zn2 rfl (zp2 rfl (zn2 rfl ?_)))))
 refine zn1 rfl (zp2 rfl (zn3 rfl (zp2 rfl (zn2 rfl (zp2 rfl ?_)))))
 exact qb (qy qc h hF ⟨rfl, trivial⟩)

def qbZ (l : qv) : Nat → (List ByteArray) → Int → Option (Flow Bool ((List ByteArray) × Int))
 | 0, _, _ => none
 | n + 1, x1, i1 =>
  bif decide (i1 < (l.Cells.length : Int)) then
   (idx l.Cells i1).bind fun y1 =>
   (qiq n y1).bind fun r1 =>
   bif (!r1) then
    some (.ret false)
   else
    (appS x1 ([y1.Name] : List ByteArray)).bind fun x2 =>
    qbZ l n x2 (W64 (i1 + 1))
  else
   some (.nxt (x1, i1))

def qgh (n : Nat) (l : qv) : Option Bool :=
 (qbZ l n ([] : List ByteArray) 0).bind fun o => match o with
 | .ret r => some r
 | .nxt (x1, _) =>
  bif decide ((l.Cells.length : Int) ≤ 8) then
   (qdJ n x1).bind fun r2 =>
   some r2
  else
   some false

theorem qlu {n : Nat} {w : World} {l : qv} {cs1 : List Value} (ha1 : GoT.R w (old w) l cs1) {r : Bool} (hF : qgh n l = some r) : RetV Tryz.prog 179 [GoT.v qv cs1] w r := by
 obtain ⟨p1, k1, rfl, s1⟩ := qbA ha1
 refine qe Tryz.func179 rfl (m := 30) rfl rfl (fun h => ?_)
 rw [qgh] at hF
 refine zSR (qN h rfl rfl ?_)
 intro w1 bb1 h
 refine zp1 rfl (zNSR (zp1 rfl (zNSSR (zp1 rfl (zl 0 0 h rfl (zp1 rfl ?_))))))
 refine zp1 rfl (qb ?_)
 replace h := h.nil (α := ByteArray)
 obtain ⟨o1, hF, hK1⟩ := qd hF
 refine qw (qP [(1, _), (3, _), (7, _), (8, _), (9, _)] ⟨rfl, rfl, rfl, rfl, rfl, trivial⟩ ?_)
 refine qH (fun m e w' => ∃ (S1 : Nat → Prop) (p2 : Option Addr) (ln1 : Nat) (k2 : Nat) (x1 : (List ByteArray)) (i1 : Int), qbZ l m x1 i1 = some o1 ∧ e = [(1, .pointer (some ⟨bb1, 0, none⟩)), (3, .slice p2 ln1 k2), (7, .slice p1 l.Cells.length k1), (8, .int .i64 (l.Cells.length : Int)), (9, .int .i64 i1)] ∧ SH w w' [Ch.own S1 (x1 : List ByteArray) [.slice p2 ln1 k2], Ch.box bb1 [.slice p1 l.Cells.length k1] 43]) n ⟨_, _, _, _, _, _, hF, rfl, h⟩ ?_
 rintro m1 e1 w2 ⟨S1, p2, ln1, k2, x1, i1, hF, rfl, h⟩
 obtain rfl := (h.sl 0 rfl).2
 rcases m1 with _ | m1
 ·rw [qbZ] at hF
  cases hF
 rw [qbZ] at hF
 refine zSR (zp1 rfl (zNS ?_))
 refine qr rfl hF ?_ ?_ <;> intro hF
 ·refine zKSBSR ?_
  obtain ⟨y1, hy1, hF⟩ := qd hF
  have he1 := qf hy1
  obtain ⟨b1, o_1, q1, cs2, hp1, hq1, -, hr1, hc2⟩ := s1.at hy1
  obtain ⟨p3, k3, p4, k4, p5, k5, rfl, s2, s3, s4⟩ := qY hr1
  refine zxe hp1 hq1 he1 rfl (zc 0 (hc2.below h.below) rfl (qaa qc h rfl rfl rfl ?_))
  intro w3 bb2 h
  refine zs 0 h rfl ?_
  intro w4 h
  replace h : SH _ _ [Ch.box bb2 [.string y1.Name, .int .i64 y1.Kind, .slice p3 y1.Pins.length k3, .slice p4 y1.Arcs.length k4, .slice p5 y1.Truth.length k5, .int .i64 y1.Leak, .int .i64 y1.Energy] 183, Ch.own S1 (x1 : List ByteArray) [.slice p2 x1.length k2], Ch.box bb1 [.slice p1 l.Cells.length k1] 43] := h
  refine zNSSR (zl 0 0 h rfl ?_)
  obtain ⟨r1, hr2, hF⟩ := qd hF
  refine qp r1 h call204 (qmL (qhd y1 (h.oldS s2) (h.oldS s3) (h.oldS s4)) hr2) rfl rfl rfl rfl ?_
  intro w5 h
  refine zp1 rfl (qb ?_)
  refine qr rfl hF ?_ ?_ <;> intro hF
  ·refine zSR (zp1 rfl (qb ?_))
   obtain rfl := qh hF; replace hF := hK1
   exact qy qc h hF ⟨rfl, trivial⟩
  refine qdX (qB (zp2 rfl (zl 0 0 h rfl (qaz qc [.tmp 18] _ ([y1.Name] : List ByteArray) h rfl rfl rfl rfl rfl rfl rfl rfl rfl ⟨rfl, trivial⟩ rfl ?_))))
  intro w6 p6 S2 h
  obtain ⟨x2, hx1, hF⟩ := qd hF
  obtain ⟨g1, hx1⟩ := qa6 hx1
  refine qee qc 2 h rfl (h.sl 0 rfl).1 (h.sl 0 rfl).2 rfl rfl rfl rfl rfl rfl rfl rfl rfl g1 hx1 rfl ?_
  intro w7 p7 k6 S3 h
  refine zp1 rfl (zNER (zp2 rfl (qb ?_)))
  replace h := h.pick [2, 3] rfl
  exact qA m1 [(1, _), (3, _), (7, _), (8, _), (9, _)] (Nat.lt_succ_self m1) ⟨rfl, rfl, rfl, rfl, rfl, trivial⟩ ⟨_, _, _, _, _, _, hF, rfl, h⟩
 refine qG rfl ?_
 obtain rfl := qh hF; replace hF := hK1
 refine zSR (zp1 rfl (zl 1 0 h rfl (zp3 rfl ?_)))
 by_cases hc4 : (decide ((l.Cells.length : Int) ≤ 8)) = true
 ·replace hF := bifT hc4 hF
  refine qE hc4 (t := 26) rfl (qa rfl (zp1 rfl (qa rfl ?_)))
  obtain ⟨r2, hr3, hF⟩ := qd hF
  refine qp r2 h call205 (qfx (h.own 0 rfl) hr3) rfl rfl rfl rfl ?_
  intro w8 h
  exact zp2 rfl (qb (qy qc h hF ⟨rfl, trivial⟩))
 replace hc4 := zb hc4
 replace hF := bifF hc4 hF
 exact qD hc4 (t := 26) rfl (zn2 rfl (zp2 rfl (qb (qy qc h hF ⟨rfl, trivial⟩))))

def qaU (d : qj) : Nat → (List ByteArray) → Int → Option ((List ByteArray) × Int)
 | 0, _, _ => none
 | n + 1, x3, i2 =>
  bif decide (i2 < (d.Ports.length : Int)) then
   (idx d.Ports i2).bind fun y2 =>
   (appS x3 ([y2.Name] : List ByteArray)).bind fun x4 =>
   qaU d n x4 (W64 (i2 + 1))
  else
   some (x3, i2)

def qaT (d : qj) : Nat → (List ByteArray) → Int → Option ((List ByteArray) × Int)
 | 0, _, _ => none
 | n + 1, x1, i1 =>
  bif decide (i1 < (d.Instances.length : Int)) then
   (idx d.Instances i1).bind fun y1 =>
   (appS x1 ([y1.Name] : List ByteArray)).bind fun x2 =>
   qaT d n x2 (W64 (i1 + 1))
  else
   some (x1, i1)

def qdW (n : Nat) (d : qj) : Option Bool :=
 (qaT d n ([] : List ByteArray) 0).bind fun o => match o with
 | (x1, _) =>
  (qaU d n ([] : List ByteArray) 0).bind fun o => match o with
  | (x3, _) =>
   bif decide ((x1.length : Int) ≤ 14) then
    bif decide ((d.Nets.length : Int) ≤ 30) then
     bif decide ((x3.length : Int) ≤ 8) then
      (qdJ n x1).bind fun r1 =>
      bif r1 then
       (qdJ n d.Nets).bind fun r2 =>
       bif r2 then
        (qdJ n x3).bind fun r3 =>
        some r3
       else
        some false
      else
       some false
     else
      some false
    else
     some false
   else
    some false

theorem qjm {n : Nat} {w : World} {d : qj} {cs1 : List Value} (ha1 : GoT.R w (old w) d cs1) {r : Bool} (hF : qdW n d = some r) : RetV Tryz.prog 180 [GoT.v qj cs1] w r := by
 obtain ⟨p1, k1, p2, k2, p3, k3, rfl, s1, s2, s3⟩ := qaE ha1
 refine qe Tryz.func180 rfl (m := 62) rfl rfl (fun h => ?_)
 rw [qdW] at hF
 refine zSR (qN h rfl rfl ?_)
 intro w1 bb1 h
 refine zp1 rfl (zNSR (zp2 rfl (zNSSR (zp1 rfl (zl 0 0 h rfl ?_)))))
 refine zp2 rfl (qb ?_)
 replace h := h.nil (α := ByteArray)
 obtain ⟨o1, hF, hK1⟩ := qd hF
 refine qw (qP [(1, _), (3, _), (4, _), (10, _), (11, _), (12, _)] ⟨rfl, rfl, rfl, rfl, rfl, rfl, trivial⟩ ?_)
 refine qH (fun m e w' => ∃ (S1 : Nat → Prop) (p4 : Option Addr) (ln1 : Nat) (k4 : Nat) (x1 : (List ByteArray)) (i1 : Int), qaT d m x1 i1 = some o1 ∧ e = [(1, .pointer (some ⟨bb1, 0, none⟩)), (3, .slice p4 ln1 k4), (4, .slice none 0 0), (10, .slice p1 d.Instances.length k1), (11, .int .i64 (d.Instances.length : Int)), (12, .int .i64 i1)] ∧ SH w w' [Ch.own S1 (x1 : List ByteArray) [.slice p4 ln1 k4], Ch.box bb1 [.slice p1 d.Instances.length k1, .slice p2 d.Nets.length k2, .slice p3 d.Ports.length k3] 47]) n ⟨_, _, _, _, _, _, hF, rfl, h⟩ ?_
 rintro m1 e1 w2 ⟨S1, p4, ln1, k4, x1, i1, hF, rfl, h⟩
 obtain rfl := (h.sl 0 rfl).2
 rcases m1 with _ | m1
 ·rw [qaT] at hF
  cases hF
 rw [qaT] at hF
 refine zSR (zp1 rfl (zNS ?_))
 refine qr rfl hF ?_ ?_ <;> intro hF
 ·refine zKSBSR ?_
  obtain ⟨y1, hy1, hF⟩ := qd hF
  have he1 := qf hy1
  obtain ⟨b1, o_1, q1, cs2, hp1, hq1, -, hr1, hc2⟩ := s1.at hy1
  obtain ⟨p5, k5, rfl, s4⟩ := qab hr1
  refine zxe hp1 hq1 he1 rfl (zc 0 (hc2.below h.below) rfl (qaa qc h rfl rfl rfl ?_))
  intro w3 bb2 h
  refine zs 0 h rfl ?_
  intro w4 h
  replace h : SH _ _ [Ch.box bb2 [.string y1.Name, .int .i64 y1.Cell, .slice p5 y1.Nets.length k5] 185, Ch.own S1 (x1 : List ByteArray) [.slice p4 x1.length k4], Ch.box bb1 [.slice p1 d.Instances.length k1, .slice p2 d.Nets.length k2, .slice p3 d.Ports.length k3] 47] := h
  refine qb (qB (zp2 rfl (zl 0 0 h rfl (qaz qc [.tmp 18] _ ([y1.Name] : List ByteArray) h rfl rfl rfl rfl rfl rfl rfl rfl rfl ⟨rfl, trivial⟩ rfl ?_))))
  intro w5 p6 S2 h
  obtain ⟨x2, hx1, hF⟩ := qd hF
  obtain ⟨g1, hx1⟩ := qa6 hx1
  refine qee qc 2 h rfl (h.sl 0 rfl).1 (h.sl 0 rfl).2 rfl rfl rfl rfl rfl rfl rfl rfl rfl g1 hx1 rfl ?_
  intro w6 p7 k6 S3 h
  refine zp1 rfl (zNER (zp2 rfl (qb ?_)))
  replace h := h.pick [2, 3] rfl
  exact qA m1 [(1, _), (3, _), (4, _), (10, _), (11, _), (12, _)] (Nat.lt_succ_self m1) ⟨rfl, rfl, rfl, rfl, rfl, rfl, trivial⟩ ⟨_, _, _, _, _, _, hF, rfl, h⟩
 refine qG rfl ?_
 obtain rfl := qh hF; replace hF := hK1
 refine zSSR (zp1 rfl (zl 1 2 h rfl (zp2 rfl (qb ?_))))
 replace h := h.nil (α := ByteArray)
 obtain ⟨o2, hF, hK2⟩ := qd hF
 refine qw (qP [(1, _), (3, _), (4, _), (23, _), (24, _), (25, _)] ⟨rfl, rfl, rfl, rfl, rfl, rfl, trivial⟩ ?_)
 refine qH (fun m e w' => ∃ (S4 : Nat → Prop) (p8 : Option Addr) (ln2 : Nat) (k7 : Nat) (x3 : (List ByteArray)) (i2 : Int), qaU d m x3 i2 = some o2 ∧ e = [(1, .pointer (some ⟨bb1, 0, none⟩)), (3, .slice p4 x1.length k4), (4, .slice p8 ln2 k7), (23, .slice p3 d.Ports.length k3), (24, .int .i64 (d.Ports.length : Int)), (25, .int .i64 i2)] ∧ SH w w' [Ch.own S4 (x3 : List ByteArray) [.slice p8 ln2 k7], Ch.own S1 (x1 : List ByteArray) [.slice p4 x1.length k4], Ch.box bb1 [.slice p1 d.Instances.length k1, .slice p2 d.Nets.length k2, .slice p3 d.Ports.length k3] 47]) n ⟨_, _, _, _, _, _, hF, rfl, h⟩ ?_
 rintro m2 e2 w7 ⟨S4, p8, ln2, k7, x3, i2, hF, rfl, h⟩
 obtain rfl := (h.sl 0 rfl).2
 rcases m2 with _ | m2
 ·rw [qaU] at hF
  cases hF
 rw [qaU] at hF
 refine zSR (zp1 rfl (zNS ?_))
 refine qr rfl hF ?_ ?_ <;> intro hF
 ·refine zKSBSR ?_
  obtain ⟨y2, hy2, hF⟩ := qd hF
  have he2 := qf hy2
  obtain ⟨b2, o_2, q2, cs3, hp2, hq2, -, hr2, hc4⟩ := s3.at hy2
  obtain rfl := qa8 hr2
  refine zxe hp2 hq2 he2 rfl (zc 0 (hc4.below h.below) rfl (qaa qc h rfl rfl rfl ?_))
  intro w8 bb3 h
  refine zs 0 h rfl ?_
  intro w9 h
  replace h : SH _ _ [Ch.box bb3 [.string y2.Name, .int .i64 y2.Dir, .int .i64 y2.Net] 187, Ch.own S4 (x3 : List ByteArray) [.slice p8 x3.length k7], Ch.own S1 (x1 : List ByteArray) [.slice p4 x1.length k4], Ch.box bb1 [.slice p1 d.Instances.length k1, .slice p2 d.Nets.length k2, .slice p3 d.Ports.length k3] 47] := h
  refine qb (qB (zp2 rfl (zl 0 0 h rfl (qaz qc [.tmp 31] _ ([y2.Name] : List ByteArray) h rfl rfl rfl rfl rfl rfl rfl rfl rfl ⟨rfl, trivial⟩ rfl ?_))))
  intro w10 p9 S5 h
  obtain ⟨x4, hx2, hF⟩ := qd hF
  obtain ⟨g2, hx2⟩ := qa6 hx2
  refine qee qc 2 h rfl (h.sl 0 rfl).1 (h.sl 0 rfl).2 rfl rfl rfl rfl rfl rfl rfl rfl rfl g2 hx2 rfl ?_
  intro w11 p10 k8 S6 h
  refine zp1 rfl (zNER (zp2 rfl (qb ?_)))
  replace h := h.pick [2, 3, 4] rfl
  exact qA m2 [(1, _), (3, _), (4, _), (23, _), (24, _), (25, _)] (Nat.lt_succ_self m2) ⟨rfl, rfl, rfl, rfl, rfl, rfl, trivial⟩ ⟨_, _, _, _, _, _, hF, rfl, h⟩
 refine qG rfl ?_
 obtain rfl := qh hF; replace hF := hK2
 refine zSR (zp4 rfl ?_)
 by_cases hc5 : (decide ((x1.length : Int) ≤ 14)) = true
 ·replace hF := bifT hc5 hF
  refine qE hc5 (t := 38) rfl (qa rfl (zp1 rfl (qa rfl (zl 2 1 h rfl (qa rfl (zp1 rfl (qa rfl (zp3 rfl ?_))))))))
  by_cases hc6 : (decide ((d.Nets.length : Int) ≤ 30)) = true
  ·replace hF := bifT hc6 hF
   refine qE hc6 (t := 44) rfl (qa rfl (zp1 rfl (qa rfl (zp1 rfl (qa rfl (zp3 rfl ?_))))))
   by_cases hc7 : (decide ((x3.length : Int) ≤ 8)) = true
   ·replace hF := bifT hc7 hF
    refine qE hc7 (t := 49) rfl (qa rfl (zp1 rfl (qa rfl ?_)))
    obtain ⟨r1, hr3, hF⟩ := qd hF
    refine qp r1 h call205 (qfx (h.own 1 rfl) hr3) rfl rfl rfl rfl ?_
    intro w12 h
    refine zp2 rfl ?_
    by_cases hc8 : r1 = true
    ·replace hF := bifT hc8 hF
     refine qE hc8 (t := 53) rfl (qa rfl (zp1 rfl (qa rfl (zl 2 1 h rfl (qa rfl ?_)))))
     obtain ⟨r2, hr4, hF⟩ := qd hF
     refine qp r2 h call205 (qfx ⟨_, _, rfl, (h.oldS s2)⟩ hr4) rfl rfl rfl rfl ?_
     intro w13 h
     refine zp2 rfl ?_
     by_cases hc9 : r2 = true
     ·replace hF := bifT hc9 hF
      refine qE hc9 (t := 58) rfl (qa rfl (zp1 rfl (qa rfl ?_)))
      obtain ⟨r3, hr5, hF⟩ := qd hF
      refine qp r3 h call205 (qfx (h.own 0 rfl) hr5) rfl rfl rfl rfl ?_
      intro w14 h
      exact zp2 rfl (qb (qy qc h hF ⟨rfl, trivial⟩))
     replace hc9 := zb hc9
     replace hF := bifF hc9 hF
     exact qD hc9 (t := 58) rfl (zn2 rfl (zp2 rfl (qb (qy qc h hF ⟨rfl, trivial⟩))))
    replace hc8 := zb hc8
    replace hF := bifF hc8 hF
    exact qD hc8 (t := 53) rfl (zn3 rfl (zp2 rfl (zn2 rfl (zp2 rfl (qb (qy qc h hF ⟨rfl, trivial⟩))))))
   replace hc7 := zb hc7
   replace hF := bifF hc7 hF
   refine qD hc7 (t := 49) rfl (zn2 rfl (zp2 rfl (zn3 rfl (zp2 rfl (zn2 rfl ?_)))))
   exact zp2 rfl (qb (qy qc h hF ⟨rfl, trivial⟩))
  replace hc6 := zb hc6
  replace hF := bifF hc6 hF
  refine qD hc6 (t := 44) rfl (zn3 rfl (zp2 rfl (zn2 rfl (zp2 rfl (zn2 rfl ?_)))))
  exact zn1 rfl (zp2 rfl (zn2 rfl (zp2 rfl (qb (qy qc h hF ⟨rfl, trivial⟩)))))
 replace hc5 := zb hc5
 replace hF := bifF hc5 hF
 refine qD hc5 (t := 38) rfl (zn4 rfl (zp2 rfl (zn3 rfl (zp2 rfl ?_))))
 refine zn2 rfl (zp2 rfl (zn3 rfl (zp2 rfl (zn2 rfl (zp1 rfl ?_)))))
 exact zp1 rfl (qb (qy qc h hF ⟨rfl, trivial⟩))

def qeP (_ : Nat) (list : (List qC)) : Option Int :=
 some (list.length : Int)

theorem qje {n : Nat} {w : World} {list : (List qC)} {cs1 : List Value} (ha1 : GoT.R w (old w) list cs1) {r : Int} (hF : qeP n list = some r) : RetV Tryz.prog 206 [GoT.v (List qC) cs1] w r := by
 obtain ⟨p1, k1, rfl, s1⟩ := ha1
 refine qe Tryz.func206 rfl (m := 5) rfl rfl (fun h => ?_)
 rw [qeP] at hF
 exact zSR (zp1 rfl (zNSR (zp3 rfl (qb (qaA qc h hF ⟨rfl, trivial⟩)))))

def qfC (_ : Nat) (list : (List ByteArray)) : Option Int :=
 some (list.length : Int)

theorem qj0 {n : Nat} {w : World} {list : (List ByteArray)} {cs1 : List Value} (ha1 : GoT.R w (old w) list cs1) {r : Int} (hF : qfC n list = some r) : RetV Tryz.prog 208 [GoT.v (List ByteArray) cs1] w r := by
 obtain ⟨p1, k1, rfl, s1⟩ := ha1
 refine qe Tryz.func208 rfl (m := 5) rfl rfl (fun h => ?_)
 rw [qfC] at hF
 exact zSR (zp1 rfl (zNSR (zp3 rfl (qb (qaA qc h hF ⟨rfl, trivial⟩)))))

def qc7 (n : Nat) (d : qj) (net : Int) : Option Bool :=
 (qfC n d.Nets).bind fun r1 =>
 (qaX n net 0 (W64 (r1 - 1))).bind fun r2 =>
 some r2

theorem qgg {n : Nat} {w : World} {d : qj} {net : Int} {cs1 : List Value} (ha1 : GoT.R w (old w) d cs1) {r : Bool} (hF : qc7 n d net = some r) : RetV Tryz.prog 182 [GoT.v qj cs1, .int .i64 net] w r := by
 obtain ⟨p1, k1, p2, k2, p3, k3, rfl, s1, s2, s3⟩ := qaE ha1
 refine qe Tryz.func182 rfl (m := 11) rfl rfl (fun h => ?_)
 rw [qc7] at hF
 refine zSR (qN h rfl rfl ?_)
 intro w1 bb1 h
 refine zp1 rfl (zNSR (zp2 rfl (zl 0 1 h rfl ?_)))
 obtain ⟨r1, hr1, hF⟩ := qd hF
 refine qR r1 h call208 (qj0 ⟨_, _, rfl, (h.oldS s2)⟩ hr1) rfl rfl rfl rfl ?_
 intro w2 h
 refine zp1 rfl ?_
 obtain ⟨r2, hr2, hF⟩ := qd hF
 refine qp r2 h call86 (qaM hr2) rfl rfl rfl rfl ?_
 intro w3 h
 exact zp1 rfl (qb (qy qc h hF ⟨rfl, trivial⟩))

def qcF (n : Nat) (net : Int) (v0 : qj) : Option Bool :=
 (qc7 n v0 net).bind fun r1 =>
 some (!r1)

theorem qiG {n : Nat} {w : World} {net : Int} {v0 : qj} {p1 : Option Addr} (ha1 : GoT.R w (old w) (some v0) [.pointer p1]) {r : Bool} (hF : qcF n net v0 = some r) : RetV Tryz.prog 207 [.int .i64 net, .pointer p1] w r := by
 obtain ⟨b1, o_1, cs1, rfl, -, hr1, hc1⟩ := PtR.get ha1 rfl
 obtain ⟨p2, k1, p3, k2, p4, k3, rfl, s1, s2, s3⟩ := qaE hr1
 refine qe Tryz.func207 rfl (m := 8) rfl rfl (fun h => ?_)
 rw [qcF] at hF
 refine zSR (zp1 rfl (zNSR (zc 0 (hc1.below h.below) rfl (zp1 rfl ?_))))
 obtain ⟨r1, hr2, hF⟩ := qd hF
 refine qp r1 h call182 (qgg (qbd v0 (h.oldS s1) (h.oldS s2) (h.oldS s3)) hr2) rfl rfl rfl rfl ?_
 intro w1 h
 exact zp2 rfl (qb (qy qc h hF ⟨rfl, trivial⟩))

def qK (s : (List Int)) (f_0 : qj) : Nat → Int → Option (Flow Int Int)
 | 0, _ => none
 | n + 1, i1 =>
  bif decide (i1 < (s.length : Int)) then
   (idx s i1).bind fun y1 =>
   (qcF n y1 f_0).bind fun r1 =>
   bif r1 then
    some (.ret i1)
   else
    qK s f_0 n (W64 (i1 + 1))
  else
   some (.nxt i1)

def qaN (n : Nat) (s : (List Int)) (f_0 : qj) : Option Int :=
 (qK s f_0 n 0).bind fun o => match o with
 | .ret r => some r
 | .nxt _ =>
  some (-1)

theorem qeA {n : Nat} {w : World} {s : (List Int)} {f_0 : qj} {cs1 : List Value} (ha1 : GoT.R w (old w) s cs1) {p2 : Option Addr} (ha2 : GoT.R w (old w) (some f_0) [.pointer p2]) {r : Int} (hF : qaN n s f_0 = some r) : RetV Tryz.prog 190 [GoT.v (List Int) cs1, .func (.func 207) #[] #[.pointer p2]] w r := by
 obtain ⟨p1, k1, rfl, s1⟩ := ha1
 obtain ⟨b1, o_1, cs2, rfl, -, hr1, hc1⟩ := PtR.get ha2 rfl
 obtain ⟨p3, k2, p4, k3, p5, k4, rfl, s2, s3, s4⟩ := qaE hr1
 refine qe Tryz.func190 rfl (m := 19) rfl rfl (fun h => ?_)
 rw [qaN] at hF
 refine zSR (zp1 rfl (zNSSR (zp3 rfl (qb ?_))))
 obtain ⟨o1, hF, hK1⟩ := qd hF
 refine qw (qP [(0, _), (1, _), (7, _), (8, _)] ⟨rfl, rfl, rfl, rfl, trivial⟩ ?_)
 refine qH (fun m e w' => ∃ (i1 : Int), qK s f_0 m i1 = some o1 ∧ e = [(0, .slice p1 s.length k1), (1, .func (.func 207) #[] #[.pointer (some ⟨b1, o_1, none⟩)]), (7, .int .i64 (s.length : Int)), (8, .int .i64 i1)] ∧ SH w w' []) n ⟨_, hF, rfl, h⟩ ?_
 rintro m1 e1 w1 ⟨i1, hF, rfl, h⟩
 rcases m1 with _ | m1
 ·rw [qK] at hF
  cases hF
 rw [qK] at hF
 refine zSR (zp1 rfl (zNS ?_))
 refine qr rfl hF ?_ ?_ <;> intro hF
 ·refine zKSBSR (zp2 rfl (zNSR (zp2 rfl ?_)))
  refine zp1 rfl ?_
  obtain ⟨y1, hy1, hF⟩ := qd hF
  have he1 := qf hy1
  obtain ⟨b2, o_2, q1, cs3, hp1, hq1, -, hr2, hc3⟩ := s1.at hy1
  obtain rfl := hr2
  refine zxe hp1 hq1 he1 rfl (zc 0 (hc3.below h.below) rfl ?_)
  obtain ⟨r1, hr3, hF⟩ := qd hF
  refine qp r1 h call207 (qiG (h.old ha2) hr3) rfl rfl rfl rfl ?_
  intro w2 h
  refine qb ?_
  refine qr rfl hF ?_ ?_ <;> intro hF
  ·refine zSR (zp2 rfl (qb ?_))
   obtain rfl := qh hF; replace hF := hK1
   exact qaA qc h hF ⟨rfl, trivial⟩
  exact zKER (zp2 rfl (qb (qA m1 [(0, _), (1, _), (7, _), (8, _)] (Nat.lt_succ_self m1) ⟨rfl, rfl, rfl, rfl, trivial⟩ ⟨_, hF, rfl, h⟩)))
 refine qG rfl ?_
 obtain rfl := qh hF; replace hF := hK1
 exact zSR (zp1 rfl (qb (qaA qc h hF ⟨rfl, trivial⟩)))

def qaC (n : Nat) (s : (List Int)) (f_0 : qj) : Option Bool :=
 (qaN n s f_0).bind fun r1 =>
 some (decide (r1 ≥ 0))

theorem qej {n : Nat} {w : World} {s : (List Int)} {f_0 : qj} {cs1 : List Value} (ha1 : GoT.R w (old w) s cs1) {p2 : Option Addr} (ha2 : GoT.R w (old w) (some f_0) [.pointer p2]) {r : Bool} (hF : qaC n s f_0 = some r) : RetV Tryz.prog 155 [GoT.v (List Int) cs1, .func (.func 207) #[] #[.pointer p2]] w r := by
 obtain ⟨p1, k1, rfl, s1⟩ := ha1
 obtain ⟨b1, o_1, cs2, rfl, -, hr1, hc1⟩ := PtR.get ha2 rfl
 obtain ⟨p3, k2, p4, k3, p5, k4, rfl, s2, s3, s4⟩ := qaE hr1
 refine qe Tryz.func155 rfl (m := 9) rfl rfl (fun h => ?_)
 rw [qaC] at hF
 refine zSR (zp1 rfl (zNSR (zp2 rfl ?_)))
 obtain ⟨r1, hr2, hF⟩ := qd hF
 refine qR r1 h call190 (qeA ⟨_, _, rfl, (h.oldS s1)⟩ (h.old ha2) hr2) rfl rfl rfl rfl ?_
 intro w1 h
 exact zp2 rfl (qb (qy qc h hF ⟨rfl, trivial⟩))

def qc6 (n : Nat) (d : qj) (l : qv) (x : qm) : Option Bool :=
 (qeP n l.Cells).bind fun r1 =>
 (qaX n x.Cell 0 (W64 (r1 - 1))).bind fun r2 =>
 bif r2 then
  (idx l.Cells x.Cell).bind fun y1 =>
  bif ((x.Nets.length : Int) == (y1.Pins.length : Int)) then
   (qaC n x.Nets d).bind fun r3 =>
   some (!r3)
  else
   some false
 else
  some false

theorem qi3 {n : Nat} {w : World} {d : qj} {l : qv} {x : qm} {cs1 : List Value} (ha1 : GoT.R w (old w) d cs1) {cs2 : List Value} (ha2 : GoT.R w (old w) l cs2) {cs3 : List Value} (ha3 : GoT.R w (old w) x cs3) {r : Bool} (hF : qc6 n d l x = some r) : RetV Tryz.prog 181 [GoT.v qj cs1, GoT.v qv cs2, GoT.v qm cs3] w r := by
 obtain ⟨p1, k1, p2, k2, p3, k3, rfl, s1, s2, s3⟩ := qaE ha1
 obtain ⟨p4, k4, rfl, s4⟩ := qbA ha2
 obtain ⟨p5, k5, rfl, s5⟩ := qab ha3
 refine qe Tryz.func181 rfl (m := 35) rfl rfl (fun h => ?_)
 rw [qc6] at hF
 refine zSR (qN h rfl rfl ?_)
 intro w1 bb1 h
 refine qN h rfl rfl ?_
 intro w2 bb2 h
 refine qN h rfl rfl ?_
 intro w3 bb3 h
 refine zp1 rfl (zNS ?_)
 refine qcN rfl (by kernel_rfl) ?_
 refine zd1 rfl ?_
 refine zdl 0 1 h rfl ?_
 refine zd1 rfl ?_
 refine zdl 1 0 h rfl ?_
 obtain ⟨r1, hr1, hF⟩ := qd hF
 refine qcO r1 (vsI _) call206 (fun _ hb => qje ⟨_, _, rfl, ((h.ext hb).oldS s4)⟩ hr1) rfl rfl rfl rfl ?_
 refine zd1 rfl ?_
 obtain ⟨r2, hr2, hF⟩ := qd hF
 refine qcO r2 (vsB _) call86 (fun _ hb => qaM  hr2) rfl rfl rfl rfl ?_
 refine zd1 rfl ?_
 by_cases hc1 : r2 = true
 ·replace hF := bifT hc1 hF
  refine qdc hc1 (t := 14) rfl (qi rfl (zd1 rfl (qi rfl ?_)))
  refine zdl 0 2 h rfl ?_
  refine qi rfl (zd1 rfl (qi rfl (zd1 rfl (qi rfl ?_))))
  refine zdl 1 0 h rfl ?_
  refine qi rfl (zd1 rfl (qi rfl ?_))
  refine zdl 0 1 h rfl ?_
  refine qi rfl ?_
  obtain ⟨y1, hy1, hF⟩ := qd hF
  have he1 := qf hy1
  obtain ⟨b1, o_1, q1, cs4, hp1, hq1, -, hr3, hc2⟩ := s4.at hy1
  obtain ⟨p6, k6, p7, k7, p8, k8, rfl, s6, s7, s8⟩ := qY hr3
  refine zdxe hp1 hq1 he1 rfl ?_
  refine qi rfl (zd1 rfl (qi rfl ?_))
  refine zdc 2 (hc2.below h.below) rfl ?_
  refine qi rfl (zd1 rfl (qi rfl (zd3 rfl ?_)))
  by_cases hc3 : ((x.Nets.length : Int) == (y1.Pins.length : Int)) = true
  ·replace hF := bifT hc3 hF
   refine qdc hc3 (t := 28) rfl (qi rfl (zd1 rfl (qi rfl ?_)))
   refine zdl 0 2 h rfl ?_
   refine qi rfl (zd1 rfl (qi rfl ?_))
   obtain ⟨r3, hr4, hF⟩ := qd hF
   refine qcO r3 (vsB _) call155 (fun _ hb => qej ⟨_, _, rfl, ((h.ext hb).oldS s5)⟩ (qiu (x := d) 2 (h.ext hb) rfl ((h.ext hb).old ha1)) hr4) rfl rfl rfl rfl ?_
   refine qi rfl (zd3 rfl ?_)
   refine qbj (fun w4 hb => ?_)
   replace h := h.ext hb
   clear hb
   exact qy qc h hF ⟨rfl, trivial⟩
  replace hc3 := zb hc3
  replace hF := bifF hc3 hF
  refine qdk hc3 (t := 28) rfl (qk rfl rfl rfl (qk rfl rfl rfl (qk rfl rfl rfl (qk rfl rfl rfl (qk rfl rfl rfl (zd2 rfl ?_))))))
  refine qbj (fun w5 hb => ?_)
  replace h := h.ext hb
  clear hb
  exact qy qc h hF ⟨rfl, trivial⟩
 replace hc1 := zb hc1
 replace hF := bifF hc1 hF
 refine qdk hc1 (t := 14) rfl (qk rfl rfl rfl (qk rfl rfl rfl (qk rfl rfl rfl (qk rfl rfl rfl (qk rfl rfl rfl (qk rfl rfl rfl (qk rfl rfl rfl (qk rfl rfl rfl (qk rfl rfl rfl (qk rfl rfl rfl (qk rfl rfl rfl ?_)))))))))))
 refine qk rfl rfl rfl (zd2 rfl (qk rfl rfl rfl (qk rfl rfl rfl (qk rfl rfl rfl (qk rfl rfl rfl (qk rfl rfl rfl (zd2 rfl ?_)))))))
 refine qbj (fun w6 hb => ?_)
 replace h := h.ext hb
 clear hb
 exact qy qc h hF ⟨rfl, trivial⟩

def qgX (_ : Nat) (a_n : Int) : Option Bool :=
 some (a_n != 1)

theorem qkX {n : Nat} {w : World} {a_n : Int}  {r : Bool} (hF : qgX n a_n = some r) : RetV Tryz.prog 184 [.int .i64 a_n] w r := by
 refine qe Tryz.func184 rfl (m := 5) rfl rfl (fun h => ?_)
 rw [qgX] at hF
 exact zSR (zp1 rfl (zNSR (zp3 rfl (qb (qy qc h hF ⟨rfl, trivial⟩)))))

def qW (s : (List Int)) : Nat → Int → Option (Flow Int Int)
 | 0, _ => none
 | n + 1, i1 =>
  bif decide (i1 < (s.length : Int)) then
   (idx s i1).bind fun y1 =>
   (qgX n y1).bind fun r1 =>
   bif r1 then
    some (.ret i1)
   else
    qW s n (W64 (i1 + 1))
  else
   some (.nxt i1)

def qbw (n : Nat) (s : (List Int)) : Option Int :=
 (qW s n 0).bind fun o => match o with
 | .ret r => some r
 | .nxt _ =>
  some (-1)

theorem qgc {n : Nat} {w : World} {s : (List Int)} {cs1 : List Value} (ha1 : GoT.R w (old w) s cs1) {r : Int} (hF : qbw n s = some r) : RetV Tryz.prog 209 [GoT.v (List Int) cs1, .func (.func 184) #[] #[]] w r := by
 obtain ⟨p1, k1, rfl, s1⟩ := ha1
 refine qe Tryz.func209 rfl (m := 19) rfl rfl (fun h => ?_)
 rw [qbw] at hF
 refine zSR (zp1 rfl (zNSSR (zp3 rfl (qb ?_))))
 obtain ⟨o1, hF, hK1⟩ := qd hF
 refine qw (qP [(0, _), (1, _), (7, _), (8, _)] ⟨rfl, rfl, rfl, rfl, trivial⟩ ?_)
 refine qH (fun m e w' => ∃ (i1 : Int), qW s m i1 = some o1 ∧ e = [(0, .slice p1 s.length k1), (1, .func (.func 184) #[] #[]), (7, .int .i64 (s.length : Int)), (8, .int .i64 i1)] ∧ SH w w' []) n ⟨_, hF, rfl, h⟩ ?_
 rintro m1 e1 w1 ⟨i1, hF, rfl, h⟩
 rcases m1 with _ | m1
 ·rw [qW] at hF
  cases hF
 rw [qW] at hF
 refine zSR (zp1 rfl (zNS ?_))
 refine qr rfl hF ?_ ?_ <;> intro hF
 ·refine zKSBSR (zp2 rfl (zNSR (zp2 rfl ?_)))
  refine zp1 rfl ?_
  obtain ⟨y1, hy1, hF⟩ := qd hF
  have he1 := qf hy1
  obtain ⟨b1, o_1, q1, cs2, hp1, hq1, -, hr1, hc2⟩ := s1.at hy1
  obtain rfl := hr1
  refine zxe hp1 hq1 he1 rfl (zc 0 (hc2.below h.below) rfl ?_)
  obtain ⟨r1, hr2, hF⟩ := qd hF
  refine qp r1 h call184 (qkX hr2) rfl rfl rfl rfl ?_
  intro w2 h
  refine qb ?_
  refine qr rfl hF ?_ ?_ <;> intro hF
  ·refine zSR (zp2 rfl (qb ?_))
   obtain rfl := qh hF; replace hF := hK1
   exact qaA qc h hF ⟨rfl, trivial⟩
  exact zKER (zp2 rfl (qb (qA m1 [(0, _), (1, _), (7, _), (8, _)] (Nat.lt_succ_self m1) ⟨rfl, rfl, rfl, rfl, trivial⟩ ⟨_, hF, rfl, h⟩)))
 refine qG rfl ?_
 obtain rfl := qh hF; replace hF := hK1
 exact zSR (zp1 rfl (qb (qaA qc h hF ⟨rfl, trivial⟩)))

def qbi (n : Nat) (s : (List Int)) : Option Bool :=
 (qbw n s).bind fun r1 =>
 some (decide (r1 ≥ 0))

theorem qfI {n : Nat} {w : World} {s : (List Int)} {cs1 : List Value} (ha1 : GoT.R w (old w) s cs1) {r : Bool} (hF : qbi n s = some r) : RetV Tryz.prog 183 [GoT.v (List Int) cs1, .func (.func 184) #[] #[]] w r := by
 obtain ⟨p1, k1, rfl, s1⟩ := ha1
 refine qe Tryz.func183 rfl (m := 9) rfl rfl (fun h => ?_)
 rw [qbi] at hF
 refine zSR (zp1 rfl (zNSR (zp2 rfl ?_)))
 obtain ⟨r1, hr1, hF⟩ := qd hF
 refine qR r1 h call209 (qgc ⟨_, _, rfl, (h.oldS s1)⟩ hr1) rfl rfl rfl rfl ?_
 intro w1 h
 exact zp2 rfl (qb (qy qc h hF ⟨rfl, trivial⟩))

def qbQ (a_1 : qj) : Nat → (List Int) → Int → Option (Flow Bool ((List Int) × Int))
 | 0, _, _ => none
 | n + 1, x3, i2 =>
  bif decide (i2 < (a_1.Ports.length : Int)) then
   (idx a_1.Ports i2).bind fun y5 =>
   (
    bif (y5.Dir != 1) then
     bif (y5.Dir != 2) then
      some true
     else
      (qc7 n a_1 y5.Net).bind fun r2 =>
      some (!r2)
    else
     (qc7 n a_1 y5.Net).bind fun r3 =>
     some (!r3)).bind fun b7 =>
   bif b7 then
    some (.ret false)
   else
    bif (y5.Dir == 1) then
     (idx x3 y5.Net).bind fun y6 =>
     (idx x3 y5.Net).bind fun _ =>
     qbQ a_1 n (setS x3 y5.Net (W64 (y6 + 1))) (W64 (i2 + 1))
    else
     qbQ a_1 n x3 (W64 (i2 + 1))
  else
   some (.nxt (x3, i2))

def qci (a_0 : qv) (a_1 : qj) : Nat → (List Int) → Int → Option (Flow Bool ((List Int) × Int))
 | 0, _, _ => none
 | n + 1, x2, i1 =>
  bif decide (i1 < (a_1.Instances.length : Int)) then
   (idx a_1.Instances i1).bind fun y1 =>
   (qc6 n a_1 a_0 y1).bind fun r1 =>
   bif (!r1) then
    some (.ret false)
   else
    (idx y1.Nets (W64 ((y1.Nets.length : Int) - 1))).bind fun y2 =>
    (idx x2 y2).bind fun y3 =>
    (idx x2 y2).bind fun _ =>
    qci a_0 a_1 n (setS x2 y2 (W64 (y3 + 1))) (W64 (i1 + 1))
  else
   some (.nxt (x2, i1))

def qgJ (n : Nat) (a_0 : qv) (a_1 : qj) : Option Bool :=
 (
  (qgh n a_0).bind fun r5 =>
  bif (!r5) then
   some true
  else
   (qdW n a_1).bind fun r6 =>
   some (!r6)).bind fun b1 =>
 bif b1 then
  some false
 else
  (mkS (a_1.Nets.length : Int) (0 : Int)).bind fun x1 =>
  (qci a_0 a_1 n x1 0).bind fun o => match o with
  | .ret r => some r
  | .nxt (x2, _) =>
   (qbQ a_1 n x2 0).bind fun o => match o with
   | .ret r => some r
   | .nxt (x3, _) =>
    (qbi n x3).bind fun r4 =>
    some (!r4)

theorem qlL {n : Nat} {w : World} {a_0 : qv} {a_1 : qj} {cs1 : List Value} (ha1 : GoT.R w (old w) a_0 cs1) {cs2 : List Value} (ha2 : GoT.R w (old w) a_1 cs2) {r : Bool} (hF : qgJ n a_0 a_1 = some r) : RetV Tryz.prog 147 [GoT.v qv cs1, GoT.v qj cs2] w r := by
 obtain ⟨p1, k1, rfl, s1⟩ := qbA ha1
 obtain ⟨p2, k2, p3, k3, p4, k4, rfl, s2, s3, s4⟩ := qaE ha2
 refine qe Tryz.func147 rfl (m := 84) rfl rfl (fun h => ?_)
 rw [qgJ] at hF
 refine zSR (qN h rfl rfl ?_)
 intro w1 bb1 h
 refine qN h rfl rfl ?_
 intro w2 bb2 h
 refine zp1 rfl (zNSS ?_)
 obtain ⟨KF2, hKF2, o4, hF, hK4⟩ := bindE hF
 refine qek (fun e w' => ∃ (b1 : Bool), KF2 b1 = some r ∧ e = [(2, .pointer (some ⟨bb1, 0, none⟩)), (3, .pointer (some ⟨bb2, 0, none⟩)), (17, .bool b1)] ∧ SH w w' [Ch.box bb2 [.slice p2 a_1.Instances.length k2, .slice p3 a_1.Nets.length k3, .slice p4 a_1.Ports.length k4] 47, Ch.box bb1 [.slice p1 a_0.Cells.length k1] 43]) ?_ ?_
 ·refine qB (zl 1 0 h rfl ?_)
  obtain ⟨r5, hr12, hF⟩ := qd hF
  refine qp r5 h call179 (qlu (h.old ha1) hr12) rfl rfl rfl rfl ?_
  intro w17 h
  refine zp2 rfl ?_
  by_cases hc16 : (!r5) = true
  ·replace hF := bifT hc16 hF
   refine qE hc16 (t := 13) rfl (zn3 rfl (zp1 rfl (qb ?_)))
   obtain rfl := qh hF
   exact qx [(2, _), (3, _), (17, _)] ⟨rfl, rfl, rfl, trivial⟩ ⟨_, hK4, rfl, h⟩
  replace hc16 := zb hc16
  replace hF := bifF hc16 hF
  refine qD hc16 (t := 13) rfl (qa rfl (zl 0 0 h rfl (qa rfl ?_)))
  obtain ⟨r6, hr13, hF⟩ := qd hF
  refine qp r6 h call180 (qjm (h.old ha2) hr13) rfl rfl rfl rfl ?_
  intro w18 h
  refine qa rfl (zp2 rfl (qb ?_))
  obtain rfl := qh hF
  exact qx [(2, _), (3, _), (17, _)] ⟨rfl, rfl, rfl, trivial⟩ ⟨_, hK4, rfl, h⟩
 rintro e4 w19 ⟨b1, hF, rfl, h⟩
 subst hKF2
 refine qr rfl hF ?_ ?_ <;> intro hF
 ·exact zSR (zp1 rfl (qb (qy qc h hF ⟨rfl, trivial⟩)))
 refine zKSR (zp1 rfl (zl 0 1 h rfl (zp1 rfl ?_)))
 obtain ⟨x1, hx1, hF⟩ := qd hF
 obtain ⟨g1, g2, hx1⟩ := qd2 hx1
 refine qe8 qc Int h rfl rfl rfl rfl rfl rfl rfl rfl rfl g1 g2 hx1 rfl ?_
 intro w3 S1 p5 h
 refine zp1 rfl (zNSSR (zp1 rfl (zl 1 0 h rfl (zp2 rfl (qb ?_)))))
 obtain ⟨o1, hF, hK1⟩ := qd hF
 refine qw (qP [(2, _), (3, _), (5, _), (23, _), (24, _), (25, _)] ⟨rfl, rfl, rfl, rfl, rfl, rfl, trivial⟩ ?_)
 refine qH (fun m e w' => ∃ (x2 : (List Int)) (i1 : Int), qci a_0 a_1 m x2 i1 = some o1 ∧ e = [(2, .pointer (some ⟨bb1, 0, none⟩)), (3, .pointer (some ⟨bb2, 0, none⟩)), (5, .slice p5 x1.length x1.length), (23, .slice p2 a_1.Instances.length k2), (24, .int .i64 (a_1.Instances.length : Int)), (25, .int .i64 i1)] ∧ SH w w' [Ch.own S1 (x2 : List Int) [.slice p5 x1.length x1.length], Ch.box bb2 [.slice p2 a_1.Instances.length k2, .slice p3 a_1.Nets.length k3, .slice p4 a_1.Ports.length k4] 47, Ch.box bb1 [.slice p1 a_0.Cells.length k1] 43]) n ⟨_, _, hF, rfl, h⟩ ?_
 rintro m1 e1 w4 ⟨x2, i1, hF, rfl, h⟩
 rcases m1 with _ | m1
 ·rw [qci] at hF
  cases hF
 rw [qci] at hF
 refine zSR (zp1 rfl (zNS ?_))
 refine qr rfl hF ?_ ?_ <;> intro hF
 ·refine zKSBSR ?_
  obtain ⟨y1, hy1, hF⟩ := qd hF
  have he1 := qf hy1
  obtain ⟨b2, o_1, q1, cs3, hp1, hq1, -, hr1, hc3⟩ := s2.at hy1
  obtain ⟨p6, k5, rfl, s5⟩ := qab hr1
  refine zxe hp1 hq1 he1 rfl (zc 0 (hc3.below h.below) rfl (qaa qc h rfl rfl rfl ?_))
  intro w5 bb3 h
  refine zs 0 h rfl ?_
  intro w6 h
  refine zNSSR (zl 2 0 h rfl (zl 3 0 h rfl (zl 0 0 h rfl ?_)))
  obtain ⟨r1, hr2, hF⟩ := qd hF
  refine qp r1 h call181 (qi3 (h.old ha2) (h.old ha1) (qf3 y1 (h.oldS s5)) hr2) rfl rfl rfl rfl ?_
  intro w7 h
  refine zp1 rfl (qb ?_)
  refine qr rfl hF ?_ ?_ <;> intro hF
  ·refine zSR (zp1 rfl (qb ?_))
   obtain rfl := qh hF; replace hF := hK1
   exact qy qc h hF ⟨rfl, trivial⟩
  refine qdX (qB (zp2 rfl (zl 0 2 h rfl (zp1 rfl (zl 0 2 h rfl (zp2 rfl ?_))))))
  obtain ⟨y2, hy2, hF⟩ := qd hF
  have he2 := qf hy2
  obtain ⟨b3, o_2, q2, cs4, hp2, hq2, -, hr3, hc5⟩ := s5.at hy2
  obtain rfl := hr3
  refine zxe hp2 hq2 he2 rfl (zc 0 (hc5.below h.below) rfl ?_)
  obtain ⟨y3, hy3, hF⟩ := qd hF
  have he3 := qf hy3
  obtain ⟨b4, o_3, q3, cs5, hp3, hq3, -, hr4, hc6⟩ := (h.sl 1 rfl).1.at hy3
  obtain rfl := hr4
  refine zx hp3 hq3 ⟨he3.1, qae he3.2.1 (h.sl 1 rfl).2⟩ rfl (zc 0 hc6 rfl (zp1 rfl ?_))
  obtain ⟨y4, hy4, hF⟩ := qd hF
  have he4 := qf hy4
  obtain ⟨b5, o_4, q4, cs6, hp4, hq4, -, hr5, hc7⟩ := (h.sl 1 rfl).1.at hy4
  obtain rfl := hr5
  refine zx hp4 hq4 ⟨he4.1, qae he4.2.1 (h.sl 1 rfl).2⟩ rfl (qdj qc 1 0 (W64 (y3 + 1)) h rfl hy4 hp4 hq4 rfl hc7 rfl rfl rfl rfl rfl rfl rfl ?_)
  intro w8 h
  refine zNER (zp2 rfl (qb ?_))
  replace h := h.pick [1, 2, 3] rfl
  exact qA m1 [(2, _), (3, _), (5, _), (23, _), (24, _), (25, _)] (Nat.lt_succ_self m1) ⟨rfl, rfl, rfl, rfl, rfl, rfl, trivial⟩ ⟨_, _, hF, rfl, h⟩
 refine qG rfl ?_
 obtain rfl := qh hF; replace hF := hK1
 refine zSSR (zp1 rfl (zl 1 2 h rfl (zp2 rfl (qb ?_))))
 obtain ⟨o2, hF, hK2⟩ := qd hF
 refine qw ?_
 replace h := h.pick [0, 1] rfl
 refine qP [(3, _), (5, _), (49, _), (50, _), (51, _)] ⟨rfl, rfl, rfl, rfl, rfl, trivial⟩ ?_
 refine qH (fun m e w' => ∃ (x3 : (List Int)) (i2 : Int), qbQ a_1 m x3 i2 = some o2 ∧ e = [(3, .pointer (some ⟨bb2, 0, none⟩)), (5, .slice p5 x1.length x1.length), (49, .slice p4 a_1.Ports.length k4), (50, .int .i64 (a_1.Ports.length : Int)), (51, .int .i64 i2)] ∧ SH w w' [Ch.own S1 (x3 : List Int) [.slice p5 x1.length x1.length], Ch.box bb2 [.slice p2 a_1.Instances.length k2, .slice p3 a_1.Nets.length k3, .slice p4 a_1.Ports.length k4] 47]) n ⟨_, _, hF, rfl, h⟩ ?_
 rintro m2 e2 w9 ⟨x3, i2, hF, rfl, h⟩
 rcases m2 with _ | m2
 ·rw [qbQ] at hF
  cases hF
 rw [qbQ] at hF
 refine zSR (zp1 rfl (zNS ?_))
 refine qr rfl hF ?_ ?_ <;> intro hF
 ·refine zKSBSR ?_
  obtain ⟨y5, hy5, hF⟩ := qd hF
  have he5 := qf hy5
  obtain ⟨b6, o_5, q5, cs7, hp5, hq5, -, hr6, hc9⟩ := s4.at hy5
  obtain rfl := qa8 hr6
  refine zxe hp5 hq5 he5 rfl (zc 0 (hc9.below h.below) rfl (qaa qc h rfl rfl rfl ?_))
  intro w10 bb4 h
  refine zs 0 h rfl ?_
  intro w11 h
  replace h : SH _ _ [Ch.box bb4 [.string y5.Name, .int .i64 y5.Dir, .int .i64 y5.Net] 187, Ch.own S1 (x3 : List Int) [.slice p5 x1.length x1.length], Ch.box bb2 [.slice p2 a_1.Instances.length k2, .slice p3 a_1.Nets.length k3, .slice p4 a_1.Ports.length k4] 47] := h
  refine zNSS ?_
  obtain ⟨KF1, hKF1, o3, hF, hK3⟩ := bindE hF
  refine qek (fun e w' => ∃ (b7 : Bool), KF1 b7 = some o2 ∧ e = [(3, .pointer (some ⟨bb2, 0, none⟩)), (5, .slice p5 x1.length x1.length), (9, .pointer (some ⟨bb4, 0, none⟩)), (49, .slice p4 a_1.Ports.length k4), (50, .int .i64 (a_1.Ports.length : Int)), (51, .int .i64 i2), (69, .bool b7)] ∧ SH w w' [Ch.box bb4 [.string y5.Name, .int .i64 y5.Dir, .int .i64 y5.Net] 187, Ch.own S1 (x3 : List Int) [.slice p5 x1.length x1.length], Ch.box bb2 [.slice p2 a_1.Instances.length k2, .slice p3 a_1.Nets.length k3, .slice p4 a_1.Ports.length k4] 47]) ?_ ?_
  ·refine qB (zp1 rfl (zl 0 1 h rfl (zp2 rfl ?_)))
   by_cases hc14 : (y5.Dir != 1) = true
   ·replace hF := bifT hc14 hF
    refine qE hc14 (t := 58) rfl (qa rfl (zp1 rfl (qa rfl (zl 0 1 h rfl (qa rfl (zp3 rfl ?_))))))
    by_cases hc15 : (y5.Dir != 2) = true
    ·replace hF := bifT hc15 hF
     refine qE hc15 (t := 63) rfl (zn5 rfl (zp1 rfl (qb ?_)))
     obtain rfl := qh hF
     exact qx [(3, _), (5, _), (9, _), (49, _), (50, _), (51, _), (69, _)] ⟨rfl, rfl, rfl, rfl, rfl, rfl, rfl, trivial⟩ ⟨_, hK3, rfl, h⟩
    replace hc15 := zb hc15
    replace hF := bifF hc15 hF
    refine qD hc15 (t := 63) rfl (qa rfl (zl 2 0 h rfl (qa rfl (zp1 rfl (qa rfl (zl 0 2 h rfl (qa rfl ?_)))))))
    obtain ⟨r2, hr9, hF⟩ := qd hF
    refine qp r2 h call182 (qgg (h.old ha2) hr9) rfl rfl rfl rfl ?_
    intro w13 h
    refine qa rfl (zp2 rfl (qb ?_))
    obtain rfl := qh hF
    exact qx [(3, _), (5, _), (9, _), (49, _), (50, _), (51, _), (69, _)] ⟨rfl, rfl, rfl, rfl, rfl, rfl, rfl, trivial⟩ ⟨_, hK3, rfl, h⟩
   replace hc14 := zb hc14
   replace hF := bifF hc14 hF
   refine qD hc14 (t := 58) rfl (zn3 rfl (zp2 rfl (qa rfl (zl 2 0 h rfl (qa rfl (zp1 rfl (qa rfl (zl 0 2 h rfl ?_))))))))
   refine qa rfl ?_
   obtain ⟨r3, hr10, hF⟩ := qd hF
   refine qp r3 h call182 (qgg (h.old ha2) hr10) rfl rfl rfl rfl ?_
   intro w14 h
   refine qa rfl (zp2 rfl (qb ?_))
   obtain rfl := qh hF
   exact qx [(3, _), (5, _), (9, _), (49, _), (50, _), (51, _), (69, _)] ⟨rfl, rfl, rfl, rfl, rfl, rfl, rfl, trivial⟩ ⟨_, hK3, rfl, h⟩
  rintro e3 w15 ⟨b7, hF, rfl, h⟩
  subst hKF1
  refine qr rfl hF ?_ ?_ <;> intro hF
  ·refine zSR (zp1 rfl (qb ?_))
   obtain rfl := qh hF; replace hF := hK2
   exact qy qc h hF ⟨rfl, trivial⟩
  refine zKSR (zp1 rfl (zl 0 1 h rfl (zp1 rfl (qb ?_))))
  refine qr rfl hF ?_ ?_ <;> intro hF
  ·refine qB (zp2 rfl (zl 0 2 h rfl ?_))
   obtain ⟨y6, hy6, hF⟩ := qd hF
   have he6 := qf hy6
   obtain ⟨b8, o_6, q6, cs8, hp6, hq6, -, hr7, hc12⟩ := (h.sl 1 rfl).1.at hy6
   obtain rfl := hr7
   refine zx hp6 hq6 ⟨he6.1, qae he6.2.1 (h.sl 1 rfl).2⟩ rfl (zc 0 hc12 rfl (zp1 rfl ?_))
   obtain ⟨y7, hy7, hF⟩ := qd hF
   have he7 := qf hy7
   obtain ⟨b9, o_7, q7, cs9, hp7, hq7, -, hr8, hc13⟩ := (h.sl 1 rfl).1.at hy7
   obtain rfl := hr8
   refine zx hp7 hq7 ⟨he7.1, qae he7.2.1 (h.sl 1 rfl).2⟩ rfl (qdj qc 1 0 (W64 (y6 + 1)) h rfl hy7 hp7 hq7 rfl hc13 rfl rfl rfl rfl rfl rfl rfl ?_)
   intro w12 h
   refine zNER (zp2 rfl (qb ?_))
   replace h := h.pick [1, 2] rfl
   exact qA m2 [(3, _), (5, _), (49, _), (50, _), (51, _)] (Nat.lt_succ_self m2) ⟨rfl, rfl, rfl, rfl, rfl, trivial⟩ ⟨_, _, hF, rfl, h⟩
  refine zKER (zp2 rfl (qb ?_))
  replace h := h.pick [1, 2] rfl
  exact qA m2 [(3, _), (5, _), (49, _), (50, _), (51, _)] (Nat.lt_succ_self m2) ⟨rfl, rfl, rfl, rfl, rfl, trivial⟩ ⟨_, _, hF, rfl, h⟩
 refine qG rfl ?_
 obtain rfl := qh hF; replace hF := hK2
 refine zSR (zp1 rfl ?_)
 obtain ⟨r4, hr11, hF⟩ := qd hF
 refine qp r4 h call183 (qfI (h.own 0 rfl) hr11) rfl rfl rfl rfl ?_
 intro w16 h
 exact zp2 rfl (qb (qy qc h hF ⟨rfl, trivial⟩))

def qbb (i1 : Int) (y1 : qm) : Nat → (List Tplace) → Int → Option ((List Tplace) × Int)
 | 0, _, _ => none
 | n + 1, x2, i2 =>
  bif decide (i2 < (y1.Nets.length : Int)) then
   (idx y1.Nets i2).bind fun y2 =>
   (appS x2 ([(⟨i1, i2, y2, (i2 == (W64 ((y1.Nets.length : Int) - 1)))⟩ : Tplace)] : List Tplace)).bind fun x3 =>
   qbb i1 y1 n x3 (W64 (i2 + 1))
  else
   some (x2, i2)

def qba (d : qj) : Nat → (List Tplace) → Int → Option ((List Tplace) × Int)
 | 0, _, _ => none
 | n + 1, x4, i3 =>
  bif decide (i3 < (d.Ports.length : Int)) then
   (idx d.Ports i3).bind fun y3 =>
   (appS x4 ([(⟨(-1), i3, y3.Net, (y3.Dir == 1)⟩ : Tplace)] : List Tplace)).bind fun x5 =>
   qba d n x5 (W64 (i3 + 1))
  else
   some (x4, i3)

def qa9 (d : qj) : Nat → (List Tplace) → Int → Option ((List Tplace) × Int)
 | 0, _, _ => none
 | n + 1, x1, i1 =>
  bif decide (i1 < (d.Instances.length : Int)) then
   (idx d.Instances i1).bind fun y1 =>
   (qbb i1 y1 n x1 0).bind fun o => match o with
   | (x2, _) =>
    qa9 d n x2 (W64 (i1 + 1))
  else
   some (x1, i1)

def qb6 (n : Nat) (d : qj) : Option (List Tplace) :=
 (qa9 d n ([] : List Tplace) 0).bind fun o => match o with
 | (x1, _) =>
  (qba d n x1 0).bind fun o => match o with
  | (x4, _) =>
   some x4

theorem qeN {n : Nat} {w : World} {d : qj} {cs1 : List Value} (ha1 : GoT.R w (old w) d cs1) {r : (List Tplace)} (hF : qb6 n d = some r) : RetV Tryz.prog 148 [GoT.v qj cs1] w r := by
 obtain ⟨p1, k1, p2, k2, p3, k3, rfl, s1, s2, s3⟩ := qaE ha1
 refine qe Tryz.func148 rfl (m := 61) rfl rfl (fun h => ?_)
 rw [qb6] at hF
 refine zSR (qN h rfl rfl ?_)
 intro w1 bb1 h
 refine zp1 rfl (zNSR (zp1 rfl (zNSSR (zp1 rfl (zl 0 0 h rfl (zp1 rfl ?_))))))
 refine zp1 rfl (qb ?_)
 replace h := h.nil (α := Tplace)
 obtain ⟨o1, hF, hK1⟩ := qd hF
 refine qw (qP [(1, _), (3, _), (11, _), (12, _), (13, _)] ⟨rfl, rfl, rfl, rfl, rfl, trivial⟩ ?_)
 refine qH (fun m e w' => ∃ (S1 : Nat → Prop) (p4 : Option Addr) (ln1 : Nat) (k4 : Nat) (x1 : (List Tplace)) (i1 : Int), qa9 d m x1 i1 = some o1 ∧ e = [(1, .pointer (some ⟨bb1, 0, none⟩)), (3, .slice p4 ln1 k4), (11, .slice p1 d.Instances.length k1), (12, .int .i64 (d.Instances.length : Int)), (13, .int .i64 i1)] ∧ SH w w' [Ch.own S1 (x1 : List Tplace) [.slice p4 ln1 k4], Ch.box bb1 [.slice p1 d.Instances.length k1, .slice p2 d.Nets.length k2, .slice p3 d.Ports.length k3] 47]) n ⟨_, _, _, _, _, _, hF, rfl, h⟩ ?_
 rintro m1 e1 w2 ⟨S1, p4, ln1, k4, x1, i1, hF, rfl, h⟩
 obtain rfl := (h.sl 0 rfl).2
 rcases m1 with _ | m1
 ·rw [qa9] at hF
  cases hF
 rw [qa9] at hF
 refine zSR (zp1 rfl (zNS ?_))
 refine qr rfl hF ?_ ?_ <;> intro hF
 ·refine zKSBSR (zp1 rfl ?_)
  obtain ⟨y1, hy1, hF⟩ := qd hF
  have he1 := qf hy1
  obtain ⟨b1, o_1, q1, cs2, hp1, hq1, -, hr1, hc2⟩ := s1.at hy1
  obtain ⟨p5, k5, rfl, s4⟩ := qab hr1
  refine zxe hp1 hq1 he1 rfl (zc 0 (hc2.below h.below) rfl (qaa qc h rfl rfl rfl ?_))
  intro w3 bb2 h
  refine zp1 rfl (zs 0 h rfl ?_)
  intro w4 h
  replace h : SH _ _ [Ch.box bb2 [.string y1.Name, .int .i64 y1.Cell, .slice p5 y1.Nets.length k5] 185, Ch.own S1 (x1 : List Tplace) [.slice p4 x1.length k4], Ch.box bb1 [.slice p1 d.Instances.length k1, .slice p2 d.Nets.length k2, .slice p3 d.Ports.length k3] 47] := h
  refine zNSR (zp1 rfl (zl 0 2 h rfl (zp2 rfl (qb ?_))))
  obtain ⟨o2, hF, hK2⟩ := qd hF
  refine qw (qP [(1, _), (3, _), (4, _), (5, _), (11, _), (12, _), (13, _), (19, _), (20, _), (21, _)] ⟨rfl, rfl, rfl, rfl, rfl, rfl, rfl, rfl, rfl, rfl, trivial⟩ ?_)
  refine qH (fun m e w' => ∃ (S2 : Nat → Prop) (p6 : Option Addr) (ln2 : Nat) (k6 : Nat) (x2 : (List Tplace)) (i2 : Int), qbb i1 y1 m x2 i2 = some o2 ∧ e = [(1, .pointer (some ⟨bb1, 0, none⟩)), (3, .slice p6 ln2 k6), (4, .int .i64 i1), (5, .pointer (some ⟨bb2, 0, none⟩)), (11, .slice p1 d.Instances.length k1), (12, .int .i64 (d.Instances.length : Int)), (13, .int .i64 i1), (19, .slice p5 y1.Nets.length k5), (20, .int .i64 (y1.Nets.length : Int)), (21, .int .i64 i2)] ∧ SH w w' [Ch.box bb2 [.string y1.Name, .int .i64 y1.Cell, .slice p5 y1.Nets.length k5] 185, Ch.own S2 (x2 : List Tplace) [.slice p6 ln2 k6], Ch.box bb1 [.slice p1 d.Instances.length k1, .slice p2 d.Nets.length k2, .slice p3 d.Ports.length k3] 47]) m1 ⟨_, _, _, _, _, _, hF, rfl, h⟩ ?_
  rintro m2 e2 w5 ⟨S2, p6, ln2, k6, x2, i2, hF, rfl, h⟩
  obtain rfl := (h.sl 1 rfl).2
  rcases m2 with _ | m2
  ·rw [qbb] at hF
   cases hF
  rw [qbb] at hF
  refine zSR (zp1 rfl (zNS ?_))
  refine qr rfl hF ?_ ?_ <;> intro hF
  ·refine zKSBSR (zp1 rfl ?_)
   obtain ⟨y2, hy2, hF⟩ := qd hF
   have he2 := qf hy2
   obtain ⟨b2, o_2, q2, cs3, hp2, hq2, -, hr2, hc4⟩ := s4.at hy2
   obtain rfl := hr2
   refine zxe hp2 hq2 he2 rfl (zc 0 (hc4.below h.below) rfl (zp2 rfl (qb (qB (zp5 rfl (zp1 rfl ?_))))))
   refine zl 0 2 h rfl (zp3 rfl (r_v (qhq qc [0, 1, 2, 3] [.tmp 27, .tmp 28, .tmp 29, .tmp 35] rfl rfl rfl rfl rfl rfl rfl rfl) rfl (qaz qc [.tmp 36] _ ([(⟨i1, i2, y2, (i2 == (W64 ((y1.Nets.length : Int) - 1)))⟩ : Tplace)] : List Tplace) h rfl rfl rfl rfl rfl rfl rfl rfl rfl ⟨(qh9 (⟨i1, i2, y2, (i2 == (W64 ((y1.Nets.length : Int) - 1)))⟩ : Tplace)), trivial⟩ rfl ?_)))
   intro w6 p7 S3 h
   obtain ⟨x3, hx1, hF⟩ := qd hF
   obtain ⟨g1, hx1⟩ := qa6 hx1
   refine qee qc 2 h rfl (h.sl 0 rfl).1 (h.sl 0 rfl).2 rfl rfl rfl rfl rfl rfl rfl rfl rfl g1 hx1 rfl ?_
   intro w7 p8 k7 S4 h
   refine zp1 rfl (zNER (zp2 rfl (qb ?_)))
   replace h := h.pick [1, 2, 3] rfl
   exact qA m2 [(1, _), (3, _), (4, _), (5, _), (11, _), (12, _), (13, _), (19, _), (20, _), (21, _)] (Nat.lt_succ_self m2) ⟨rfl, rfl, rfl, rfl, rfl, rfl, rfl, rfl, rfl, rfl, trivial⟩ ⟨_, _, _, _, _, _, hF, rfl, h⟩
  refine qG rfl ?_
  obtain rfl := qh hF; replace hF := hK2
  refine qgr (qB (zp2 rfl (qb ?_)))
  replace h := h.pick [1, 2] rfl
  exact qA m1 [(1, _), (3, _), (11, _), (12, _), (13, _)] (Nat.lt_succ_self m1) ⟨rfl, rfl, rfl, rfl, rfl, trivial⟩ ⟨_, _, _, _, _, _, hF, rfl, h⟩
 refine qG rfl ?_
 obtain rfl := qh hF; replace hF := hK1
 refine zSSR (zp1 rfl (zl 1 2 h rfl (zp2 rfl (qb ?_))))
 obtain ⟨o3, hF, hK3⟩ := qd hF
 refine qw ?_
 replace h := h.pick [0] rfl
 refine qP [(3, _), (42, _), (43, _), (44, _)] ⟨rfl, rfl, rfl, rfl, trivial⟩ ?_
 refine qH (fun m e w' => ∃ (S5 : Nat → Prop) (p9 : Option Addr) (ln3 : Nat) (k8 : Nat) (x4 : (List Tplace)) (i3 : Int), qba d m x4 i3 = some o3 ∧ e = [(3, .slice p9 ln3 k8), (42, .slice p3 d.Ports.length k3), (43, .int .i64 (d.Ports.length : Int)), (44, .int .i64 i3)] ∧ SH w w' [Ch.own S5 (x4 : List Tplace) [.slice p9 ln3 k8]]) n ⟨_, _, _, _, _, _, hF, rfl, h⟩ ?_
 rintro m3 e3 w8 ⟨S5, p9, ln3, k8, x4, i3, hF, rfl, h⟩
 obtain rfl := (h.sl 0 rfl).2
 rcases m3 with _ | m3
 ·rw [qba] at hF
  cases hF
 rw [qba] at hF
 refine zSR (zp1 rfl (zNS ?_))
 refine qr rfl hF ?_ ?_ <;> intro hF
 ·refine zKSBSR (zp1 rfl ?_)
  obtain ⟨y3, hy3, hF⟩ := qd hF
  have he3 := qf hy3
  obtain ⟨b3, o_3, q3, cs4, hp3, hq3, -, hr3, hc6⟩ := s3.at hy3
  obtain rfl := qa8 hr3
  refine zxe hp3 hq3 he3 rfl (zc 0 (hc6.below h.below) rfl (qaa qc h rfl rfl rfl ?_))
  intro w9 bb3 h
  refine zp1 rfl (zs 0 h rfl ?_)
  intro w10 h
  refine qb (qB (zp3 rfl (zl 0 2 h rfl (zp1 rfl (zl 0 1 h rfl (zp1 rfl (r_v (qhq qc [0, 1, 2, 3] [.const (.int .i64 (-1)), .tmp 50, .tmp 52, .tmp 55] rfl rfl rfl rfl rfl rfl rfl rfl) rfl (qaz qc [.tmp 56] _ ([(⟨(-1), i3, y3.Net, (y3.Dir == 1)⟩ : Tplace)] : List Tplace) h rfl rfl rfl rfl rfl rfl rfl rfl rfl ⟨(qh9 (⟨(-1), i3, y3.Net, (y3.Dir == 1)⟩ : Tplace)), trivial⟩ rfl ?_))))))))
  intro w11 p10 S6 h
  obtain ⟨x5, hx2, hF⟩ := qd hF
  obtain ⟨g2, hx2⟩ := qa6 hx2
  refine qee qc 2 h rfl (h.sl 0 rfl).1 (h.sl 0 rfl).2 rfl rfl rfl rfl rfl rfl rfl rfl rfl g2 hx2 rfl ?_
  intro w12 p11 k9 S7 h
  refine zp1 rfl (zNER (zp2 rfl (qb ?_)))
  replace h := h.pick [2] rfl
  exact qA m3 [(3, _), (42, _), (43, _), (44, _)] (Nat.lt_succ_self m3) ⟨rfl, rfl, rfl, rfl, trivial⟩ ⟨_, _, _, _, _, _, hF, rfl, h⟩
 refine qG rfl ?_
 obtain rfl := qh hF; replace hF := hK3
 refine zSR (zp2 rfl (qb ?_))
 obtain rfl := qh hF
 exact qaj qc (ρ := (List Tplace)) [GoT.v (List Tplace) [.slice p9 x4.length k8]] h ⟨rfl, trivial⟩ (PV.done h (qap (qad 0 h rfl)))

def qa0 (a_w : qS) : Nat → Int → Option (Flow Bool Int)
 | 0, _ => none
 | n + 1, i1 =>
  bif decide (i1 < (a_w.Parent.length : Int)) then
   (idx a_w.Parent i1).bind fun y1 =>
   bif (i1 == 0) then
    bif (y1 != (-1)) then
     some (.ret false)
    else
     (idx a_w.Res 0).bind fun y2 =>
     bif (y2 != 0) then
      some (.ret false)
     else
      bif decide (i1 > 0) then
       (qaX n y1 0 (W64 (i1 - 1))).bind fun r1 =>
       bif (!r1) then
        some (.ret false)
       else
        qa0 a_w n (W64 (i1 + 1))
      else
       qa0 a_w n (W64 (i1 + 1))
   else
    bif decide (i1 > 0) then
     (qaX n y1 0 (W64 (i1 - 1))).bind fun r2 =>
     bif (!r2) then
      some (.ret false)
     else
      qa0 a_w n (W64 (i1 + 1))
    else
     qa0 a_w n (W64 (i1 + 1))
  else
   some (.nxt i1)

def qfw (n : Nat) (a_w : qS) : Option Bool :=
 (qa0 a_w n 0).bind fun o => match o with
 | .ret r => some r
 | .nxt _ =>
  some true

theorem qkC {n : Nat} {w : World} {a_w : qS} {cs1 : List Value} (ha1 : GoT.R w (old w) a_w cs1) {r : Bool} (hF : qfw n a_w = some r) : RetV Tryz.prog 185 [GoT.v qS cs1] w r := by
 obtain ⟨p1, k1, p2, k2, p3, k3, p4, k4, rfl, s1, s2, s3, s4⟩ := qbJ ha1
 refine qe Tryz.func185 rfl (m := 38) rfl rfl (fun h => ?_)
 rw [qfw] at hF
 refine zSR (qN h rfl rfl ?_)
 intro w1 bb1 h
 refine zp1 rfl (zNSSR (zp1 rfl (zl 0 0 h rfl (zp2 rfl (qb ?_)))))
 obtain ⟨o1, hF, hK1⟩ := qd hF
 refine qw (qP [(1, _), (6, _), (7, _), (8, _)] ⟨rfl, rfl, rfl, rfl, trivial⟩ ?_)
 refine qH (fun m e w' => ∃ (i1 : Int), qa0 a_w m i1 = some o1 ∧ e = [(1, .pointer (some ⟨bb1, 0, none⟩)), (6, .slice p1 a_w.Parent.length k1), (7, .int .i64 (a_w.Parent.length : Int)), (8, .int .i64 i1)] ∧ SH w w' [Ch.box bb1 [.slice p1 a_w.Parent.length k1, .slice p2 a_w.Res.length k2, .slice p3 a_w.Cap.length k3, .slice p4 a_w.Sink.length k4] 130]) n ⟨_, hF, rfl, h⟩ ?_
 rintro m1 e1 w2 ⟨i1, hF, rfl, h⟩
 rcases m1 with _ | m1
 ·rw [qa0] at hF
  cases hF
 rw [qa0] at hF
 refine zSR (zp1 rfl (zNS ?_))
 refine qr rfl hF ?_ ?_ <;> intro hF
 ·refine zKSBSR (zp1 rfl ?_)
  obtain ⟨y1, hy1, hF⟩ := qd hF
  have he1 := qf hy1
  obtain ⟨b1, o_1, q1, cs2, hp1, hq1, -, hr1, hc2⟩ := s1.at hy1
  obtain rfl := hr1
  refine zxe hp1 hq1 he1 rfl (zc 0 (hc2.below h.below) rfl (zp2 rfl (zNSR (zp3 rfl ?_))))
  by_cases hc3 : (i1 == 0) = true
  ·replace hF := bifT hc3 hF
   refine qE hc3 (t := 15) rfl (qa rfl (zp1 rfl (qa rfl (zp1 rfl (qa rfl (zp1 rfl ?_))))))
   by_cases hc4 : (y1 != (-1)) = true
   ·replace hF := bifT hc4 hF
    refine qE hc4 (t := 18) rfl (zn5 rfl (qa rfl (zp3 rfl (zn2 rfl ?_))))
    refine zn5 rfl (zn2 rfl (zp1 rfl (qb (qe1 rfl rfl (zSR ?_)))))
    refine zp1 rfl (qb ?_)
    obtain rfl := qh hF; replace hF := hK1
    exact qy qc h hF ⟨rfl, trivial⟩
   replace hc4 := zb hc4
   replace hF := bifF hc4 hF
   refine qD hc4 (t := 18) rfl (qa rfl (zp1 rfl (qa rfl (zl 0 1 h rfl (qa rfl ?_)))))
   obtain ⟨y2, hy2, hF⟩ := qd hF
   have he2 := qf hy2
   obtain ⟨b2, o_2, q2, cs3, hp2, hq2, -, hr2, hc5⟩ := s2.at hy2
   obtain rfl := hr2
   refine zxe hp2 hq2 he2 rfl (qa rfl (zc 0 (hc5.below h.below) rfl (qa rfl (zp1 rfl (qa rfl (zp3 rfl ?_))))))
   by_cases hc6 : (y2 != 0) = true
   ·replace hF := bifT hc6 hF
    refine qE hc6 (t := 26) rfl (zn5 rfl (zn4 rfl (zp1 rfl (qb ?_))))
    refine qe1 rfl rfl (zSR (zp1 rfl (qb ?_)))
    obtain rfl := qh hF; replace hF := hK1
    exact qy qc h hF ⟨rfl, trivial⟩
   replace hc6 := zb hc6
   replace hF := bifF hc6 hF
   refine qD hc6 (t := 26) rfl (qa rfl (zp1 rfl (qa rfl (zp1 rfl (qa rfl (zp1 rfl ?_))))))
   by_cases hc7 : (decide (i1 > 0)) = true
   ·replace hF := bifT hc7 hF
    refine qE hc7 (t := 29) rfl (qa rfl (zp1 rfl (qa rfl (zp1 rfl (qa rfl (zp1 rfl (qa rfl ?_)))))))
    obtain ⟨r1, hr3, hF⟩ := qd hF
    refine qp r1 h call86 (qaM hr3) rfl rfl rfl rfl ?_
    intro w3 h
    refine qa rfl (zp1 rfl (qa rfl (zp2 rfl (qb ?_))))
    refine qr rfl hF ?_ ?_ <;> intro hF
    ·refine zSR (zp1 rfl (qb ?_))
     obtain rfl := qh hF; replace hF := hK1
     exact qy qc h hF ⟨rfl, trivial⟩
    exact zKER (zp2 rfl (qb (qA m1 [(1, _), (6, _), (7, _), (8, _)] (Nat.lt_succ_self m1) ⟨rfl, rfl, rfl, rfl, trivial⟩ ⟨_, hF, rfl, h⟩)))
   replace hc7 := zb hc7
   replace hF := bifF hc7 hF
   refine qD hc7 (t := 29) rfl (zn5 rfl (qa rfl (zp2 rfl (qb (qdI rfl rfl (qdX ?_))))))
   exact qgr (qB (zp2 rfl (qb (qA m1 [(1, _), (6, _), (7, _), (8, _)] (Nat.lt_succ_self m1) ⟨rfl, rfl, rfl, rfl, trivial⟩ ⟨_, hF, rfl, h⟩))))
  replace hc3 := zb hc3
  replace hF := bifF hc3 hF
  refine qD hc3 (t := 15) rfl (zn5 rfl (zn4 rfl (zp2 rfl ?_)))
  refine qa rfl (zp1 rfl (qa rfl (zp1 rfl (qa rfl (zp1 rfl ?_)))))
  by_cases hc9 : (decide (i1 > 0)) = true
  ·replace hF := bifT hc9 hF
   refine qE hc9 (t := 29) rfl (qa rfl (zp1 rfl (qa rfl (zp1 rfl (qa rfl (zp1 rfl (qa rfl ?_)))))))
   obtain ⟨r2, hr4, hF⟩ := qd hF
   refine qp r2 h call86 (qaM hr4) rfl rfl rfl rfl ?_
   intro w4 h
   refine qa rfl (zp1 rfl (qa rfl (zp2 rfl (qb ?_))))
   refine qr rfl hF ?_ ?_ <;> intro hF
   ·refine zSR (zp1 rfl (qb ?_))
    obtain rfl := qh hF; replace hF := hK1
    exact qy qc h hF ⟨rfl, trivial⟩
   exact zKER (zp2 rfl (qb (qA m1 [(1, _), (6, _), (7, _), (8, _)] (Nat.lt_succ_self m1) ⟨rfl, rfl, rfl, rfl, trivial⟩ ⟨_, hF, rfl, h⟩)))
  replace hc9 := zb hc9
  replace hF := bifF hc9 hF
  refine qD hc9 (t := 29) rfl (zn5 rfl (qa rfl (zp2 rfl (qb (qdI rfl rfl (qdX ?_))))))
  exact qgr (qB (zp2 rfl (qb (qA m1 [(1, _), (6, _), (7, _), (8, _)] (Nat.lt_succ_self m1) ⟨rfl, rfl, rfl, rfl, trivial⟩ ⟨_, hF, rfl, h⟩))))
 refine qG rfl ?_
 obtain rfl := qh hF; replace hF := hK1
 exact zSR (zp1 rfl (qb (qy qc h hF ⟨rfl, trivial⟩)))

def qir (n : Nat) (a_w : qS) (sinks : Int) : Option Bool :=
 (qaB n a_w.Parent).bind fun r1 =>
 (qaX n r1 1 8).bind fun r2 =>
 bif r2 then
  (qaB n a_w.Res).bind fun r3 =>
  bif (r3 == r1) then
   (qaB n a_w.Cap).bind fun r4 =>
   bif (r4 == r1) then
    (qfw n a_w).bind fun r5 =>
    bif r5 then
     (qby n a_w.Res 0 1000).bind fun r6 =>
     bif r6 then
      (qby n a_w.Cap 0 500).bind fun r7 =>
      bif r7 then
       (qaB n a_w.Sink).bind fun r8 =>
       bif (r8 == sinks) then
        (qby n a_w.Sink 0 (W64 (r1 - 1))).bind fun r9 =>
        some r9
       else
        some false
      else
       some false
     else
      some false
    else
     some false
   else
    some false
  else
   some false
 else
  some false

theorem qmX {n : Nat} {w : World} {a_w : qS} {sinks : Int} {cs1 : List Value} (ha1 : GoT.R w (old w) a_w cs1) {r : Bool} (hF : qir n a_w sinks = some r) : RetV Tryz.prog 149 [GoT.v qS cs1, .int .i64 sinks] w r := by
 obtain ⟨p1, k1, p2, k2, p3, k3, p4, k4, rfl, s1, s2, s3, s4⟩ := qbJ ha1
 refine qe Tryz.func149 rfl (m := 53) rfl rfl (fun h => ?_)
 rw [qir] at hF
 refine zSR (qN h rfl rfl ?_)
 intro w1 bb1 h
 refine zp1 rfl (zNSR (zp1 rfl (zl 0 0 h rfl ?_)))
 obtain ⟨r1, hr1, hF⟩ := qd hF
 refine qR r1 h call87 (qbG ⟨_, _, rfl, (h.oldS s1)⟩ hr1) rfl rfl rfl rfl ?_
 intro w2 h
 refine zp1 rfl (zNSR (zp1 rfl ?_))
 obtain ⟨r2, hr2, hF⟩ := qd hF
 refine qp r2 h call86 (qaM hr2) rfl rfl rfl rfl ?_
 intro w3 h
 refine zp1 rfl ?_
 by_cases hc1 : r2 = true
 ·replace hF := bifT hc1 hF
  refine qE hc1 (t := 11) rfl (qa rfl (zp1 rfl (qa rfl (zl 0 1 h rfl (qa rfl ?_)))))
  obtain ⟨r3, hr3, hF⟩ := qd hF
  refine qR r3 h call87 (qbG ⟨_, _, rfl, (h.oldS s2)⟩ hr3) rfl rfl rfl rfl ?_
  intro w4 h
  refine qa rfl (zp1 rfl (qa rfl (zp3 rfl ?_)))
  by_cases hc2 : (r3 == r1) = true
  ·replace hF := bifT hc2 hF
   refine qE hc2 (t := 18) rfl (qa rfl (zp1 rfl (qa rfl (zl 0 2 h rfl (qa rfl ?_)))))
   obtain ⟨r4, hr4, hF⟩ := qd hF
   refine qR r4 h call87 (qbG ⟨_, _, rfl, (h.oldS s3)⟩ hr4) rfl rfl rfl rfl ?_
   intro w5 h
   refine qa rfl (zp1 rfl (qa rfl (zp3 rfl ?_)))
   by_cases hc3 : (r4 == r1) = true
   ·replace hF := bifT hc3 hF
    refine qE hc3 (t := 25) rfl (qa rfl (zl 0 0 h rfl (qa rfl ?_)))
    obtain ⟨r5, hr5, hF⟩ := qd hF
    refine qp r5 h call185 (qkC (h.old ha1) hr5) rfl rfl rfl rfl ?_
    intro w6 h
    refine zp2 rfl ?_
    by_cases hc4 : r5 = true
    ·replace hF := bifT hc4 hF
     refine qE hc4 (t := 29) rfl (qa rfl (zp1 rfl (qa rfl (zl 0 1 h rfl (qa rfl ?_)))))
     obtain ⟨r6, hr6, hF⟩ := qd hF
     refine qp r6 h call112 (qcC ⟨_, _, rfl, (h.oldS s2)⟩ hr6) rfl rfl rfl rfl ?_
     intro w7 h
     refine zp2 rfl ?_
     by_cases hc5 : r6 = true
     ·replace hF := bifT hc5 hF
      refine qE hc5 (t := 34) rfl (qa rfl (zp1 rfl (qa rfl (zl 0 2 h rfl (qa rfl ?_)))))
      obtain ⟨r7, hr7, hF⟩ := qd hF
      refine qp r7 h call112 (qcC ⟨_, _, rfl, (h.oldS s3)⟩ hr7) rfl rfl rfl rfl ?_
      intro w8 h
      refine zp2 rfl ?_
      by_cases hc6 : r7 = true
      ·replace hF := bifT hc6 hF
       refine qE hc6 (t := 39) rfl (qa rfl (zp1 rfl (qa rfl (zl 0 3 h rfl (qa rfl ?_)))))
       obtain ⟨r8, hr8, hF⟩ := qd hF
       refine qR r8 h call87 (qbG ⟨_, _, rfl, (h.oldS s4)⟩ hr8) rfl rfl rfl rfl ?_
       intro w9 h
       refine qa rfl (zp1 rfl (qa rfl (zp3 rfl ?_)))
       by_cases hc7 : (r8 == sinks) = true
       ·replace hF := bifT hc7 hF
        refine qE hc7 (t := 46) rfl (qa rfl (zp1 rfl (qa rfl (zl 0 3 h rfl (qa rfl (zp1 rfl (qa rfl (zp1 rfl (qa rfl ?_)))))))))
        obtain ⟨r9, hr9, hF⟩ := qd hF
        refine qp r9 h call112 (qcC ⟨_, _, rfl, (h.oldS s4)⟩ hr9) rfl rfl rfl rfl ?_
        intro w10 h
        exact zp2 rfl (qb (qy qc h hF ⟨rfl, trivial⟩))
       replace hc7 := zb hc7
       replace hF := bifF hc7 hF
       exact qD hc7 (t := 46) rfl (zn5 rfl (zp2 rfl (qb (qy qc h hF ⟨rfl, trivial⟩))))
      replace hc6 := zb hc6
      replace hF := bifF hc6 hF
      refine qD hc6 (t := 39) rfl (zn5 rfl (zp2 rfl (zn4 rfl ?_)))
      exact zn1 rfl (zp2 rfl (qb (qy qc h hF ⟨rfl, trivial⟩)))
     replace hc5 := zb hc5
     replace hF := bifF hc5 hF
     refine qD hc5 (t := 34) rfl (zn3 rfl (zp2 rfl (zn5 rfl (zp1 rfl ?_))))
     exact zp1 rfl (zn5 rfl (zp2 rfl (qb (qy qc h hF ⟨rfl, trivial⟩))))
    replace hc4 := zb hc4
    replace hF := bifF hc4 hF
    refine qD hc4 (t := 29) rfl (zn3 rfl (zp2 rfl (zn3 rfl (zp2 rfl (zn1 rfl ?_)))))
    refine zn4 rfl (zp2 rfl (zn5 rfl (zp1 rfl ?_)))
    exact zp1 rfl (qb (qy qc h hF ⟨rfl, trivial⟩))
   replace hc3 := zb hc3
   replace hF := bifF hc3 hF
   refine qD hc3 (t := 25) rfl (zn2 rfl (zp2 rfl (zn3 rfl (zp2 rfl (zn2 rfl ?_)))))
   refine zn1 rfl (zp2 rfl (zn5 rfl (zp2 rfl (zn2 rfl ?_))))
   exact zn3 rfl (zp2 rfl (qb (qy qc h hF ⟨rfl, trivial⟩)))
  replace hc2 := zb hc2
  replace hF := bifF hc2 hF
  refine qD hc2 (t := 18) rfl (zn5 rfl (zp2 rfl (zn2 rfl (zp2 rfl ?_))))
  refine zn3 rfl (zp2 rfl (zn3 rfl (zp2 rfl (zn2 rfl ?_))))
  refine zn3 rfl (zp2 rfl (zn5 rfl (zp2 rfl ?_)))
  exact qb (qy qc h hF ⟨rfl, trivial⟩)
 replace hc1 := zb hc1
 replace hF := bifF hc1 hF
 refine qD hc1 (t := 11) rfl (zn5 rfl (zp2 rfl (zn4 rfl ?_)))
 refine zn1 rfl (zp2 rfl (zn2 rfl (zp2 rfl (zn3 rfl (zp2 rfl ?_)))))
 refine zn3 rfl (zp2 rfl (zn5 rfl (zp2 rfl ?_)))
 exact zn5 rfl (zp2 rfl (qb (qy qc h hF ⟨rfl, trivial⟩)))

def qds (b : qz) (x2 : (List Int)) : Nat → Int → Option (Flow Bool Int)
 | 0, _ => none
 | n + 1, i2 =>
  bif decide (i2 < (b.Wires.length : Int)) then
   (idx b.Wires i2).bind fun y4 =>
   (idx x2 i2).bind fun y5 =>
   (qir n y4 y5).bind fun r2 =>
   bif (!r2) then
    some (.ret false)
   else
    qds b x2 n (W64 (i2 + 1))
  else
   some (.nxt i2)

def qcd (r1 : (List Tplace)) : Nat → (List Int) → Int → Option ((List Int) × Int)
 | 0, _, _ => none
 | n + 1, x2, i1 =>
  bif decide (i1 < (r1.length : Int)) then
   (idx r1 i1).bind fun y1 =>
   bif (!y1.drives) then
    (idx x2 y1.net).bind fun y2 =>
    (idx x2 y1.net).bind fun _ =>
    qcd r1 n (setS x2 y1.net (W64 (y2 + 1))) (W64 (i1 + 1))
   else
    qcd r1 n x2 (W64 (i1 + 1))
  else
   some (x2, i1)

def qhu (n : Nat) (b : qz) : Option Bool :=
 (
  (qgJ n (⟨b.Library.Cells⟩ : qv) (⟨b.Design.Instances, b.Design.Nets, b.Design.Ports⟩ : qj)).bind fun r3 =>
  bif (!r3) then
   some true
  else
   some ((b.Wires.length : Int) != (b.Design.Nets.length : Int))).bind fun b1 =>
 bif b1 then
  some false
 else
  (mkS (b.Wires.length : Int) (0 : Int)).bind fun x1 =>
  (qb6 n (⟨b.Design.Instances, b.Design.Nets, b.Design.Ports⟩ : qj)).bind fun r1 =>
  (qcd r1 n x1 0).bind fun o => match o with
  | (x2, _) =>
   (qds b x2 n 0).bind fun o => match o with
   | .ret r => some r
   | .nxt _ =>
    some true

theorem qmd {n : Nat} {w : World} {b : qz} {cs1 : List Value} (ha1 : GoT.R w (old w) b cs1) {r : Bool} (hF : qhu n b = some r) : RetV Tryz.prog 108 [GoT.v qz cs1] w r := by
 obtain ⟨p1, k1, p2, k2, p3, k3, p4, k4, p5, k5, rfl, s1, s2, s3, s4, s5⟩ := qaq ha1
 refine qe Tryz.func108 rfl (m := 63) rfl rfl (fun h => ?_)
 rw [qhu] at hF
 refine zSR (qN h rfl rfl ?_)
 intro w1 bb1 h
 refine zp1 rfl (zNSS ?_)
 obtain ⟨KF1, hKF1, o3, hF, hK3⟩ := bindE hF
 refine qek (fun e w' => ∃ (b1 : Bool), KF1 b1 = some r ∧ e = [(1, .pointer (some ⟨bb1, 0, none⟩)), (23, .bool b1)] ∧ SH w w' [Ch.box bb1 [.slice p1 b.Library.Cells.length k1, .slice p2 b.Design.Instances.length k2, .slice p3 b.Design.Nets.length k3, .slice p4 b.Design.Ports.length k4, .slice p5 b.Wires.length k5] 50]) ?_ ?_
 ·refine qB (zp1 rfl (zl 0 0 h rfl (zp1 rfl (zl 0 1 h rfl ?_))))
  obtain ⟨r3, hr8, hF⟩ := qd hF
  refine qp r3 h call147 (qlL (qdK (⟨b.Library.Cells⟩ : qv) (h.oldS s1)) (qbd (⟨b.Design.Instances, b.Design.Nets, b.Design.Ports⟩ : qj) (h.oldS s2) (h.oldS s3) (h.oldS s4)) hr8) rfl rfl rfl rfl ?_
  intro w12 h
  refine zp2 rfl ?_
  by_cases hc11 : (!r3) = true
  ·replace hF := bifT hc11 hF
   refine qE hc11 (t := 14) rfl (zn5 rfl (zn3 rfl (zp1 rfl (qb ?_))))
   obtain rfl := qh hF
   exact qx [(1, _), (23, _)] ⟨rfl, rfl, trivial⟩ ⟨_, hK3, rfl, h⟩
  replace hc11 := zb hc11
  replace hF := bifF hc11 hF
  refine qD hc11 (t := 14) rfl (qa rfl (zp1 rfl (qa rfl (zl 0 4 h rfl (qa rfl (zp1 rfl (qa rfl (zp1 rfl (qa rfl (zp1 rfl (qa rfl ?_)))))))))))
  refine zl 0 2 h rfl (qa rfl (zp1 rfl (qa rfl (zp2 rfl (qb ?_)))))
  obtain rfl := qh hF
  exact qx [(1, _), (23, _)] ⟨rfl, rfl, trivial⟩ ⟨_, hK3, rfl, h⟩
 rintro e3 w13 ⟨b1, hF, rfl, h⟩
 subst hKF1
 refine qr rfl hF ?_ ?_ <;> intro hF
 ·exact zSR (zp1 rfl (qb (qy qc h hF ⟨rfl, trivial⟩)))
 refine zKSR (zp1 rfl (zl 0 4 h rfl (zp1 rfl ?_)))
 obtain ⟨x1, hx1, hF⟩ := qd hF
 obtain ⟨g1, g2, hx1⟩ := qd2 hx1
 refine qe8 qc Int h rfl rfl rfl rfl rfl rfl rfl rfl rfl g1 g2 hx1 rfl ?_
 intro w2 S1 p6 h
 refine zp1 rfl (zNSSR (zp1 rfl (zl 1 1 h rfl ?_)))
 obtain ⟨r1, hr1, hF⟩ := qd hF
 refine qai r1 h call148 (qeN (qbd (⟨b.Design.Instances, b.Design.Nets, b.Design.Ports⟩ : qj) (h.oldS s2) (h.oldS s3) (h.oldS s4)) hr1) rfl rfl rfl rfl ?_
 intro w3 S2 p7 k6 h
 refine zp2 rfl (qb ?_)
 obtain ⟨o1, hF, hK1⟩ := qd hF
 refine qw (qP [(1, _), (3, _), (30, _), (31, _), (32, _)] ⟨rfl, rfl, rfl, rfl, rfl, trivial⟩ ?_)
 refine qH (fun m e w' => ∃ (x2 : (List Int)) (i1 : Int), qcd r1 m x2 i1 = some o1 ∧ e = [(1, .pointer (some ⟨bb1, 0, none⟩)), (3, .slice p6 x1.length x1.length), (30, .slice p7 r1.length k6), (31, .int .i64 (r1.length : Int)), (32, .int .i64 i1)] ∧ SH w w' [Ch.own S2 (r1 : List Tplace) [.slice p7 r1.length k6], Ch.own S1 (x2 : List Int) [.slice p6 x1.length x1.length], Ch.box bb1 [.slice p1 b.Library.Cells.length k1, .slice p2 b.Design.Instances.length k2, .slice p3 b.Design.Nets.length k3, .slice p4 b.Design.Ports.length k4, .slice p5 b.Wires.length k5] 50]) n ⟨_, _, hF, rfl, h⟩ ?_
 rintro m1 e1 w4 ⟨x2, i1, hF, rfl, h⟩
 rcases m1 with _ | m1
 ·rw [qcd] at hF
  cases hF
 rw [qcd] at hF
 refine zSR (zp1 rfl (zNS ?_))
 refine qr rfl hF ?_ ?_ <;> intro hF
 ·refine zKSBSR ?_
  obtain ⟨y1, hy1, hF⟩ := qd hF
  have he1 := qf hy1
  obtain ⟨b2, o_1, q1, cs2, hp1, hq1, -, hr2, hc3⟩ := (h.sl 0 rfl).1.at hy1
  obtain rfl := qdR hr2
  refine zx hp1 hq1 ⟨he1.1, qae he1.2.1 (h.sl 0 rfl).2⟩ rfl (zc 0 hc3 rfl (qaa qc h rfl rfl rfl ?_))
  intro w5 bb2 h
  refine zs 0 h rfl ?_
  intro w6 h
  refine zNSR (zp1 rfl (zl 0 3 h rfl (zp1 rfl (qb ?_))))
  refine qr rfl hF ?_ ?_ <;> intro hF
  ·refine qB (zp2 rfl (zl 0 2 h rfl ?_))
   obtain ⟨y2, hy2, hF⟩ := qd hF
   have he2 := qf hy2
   obtain ⟨b3, o_2, q2, cs3, hp2, hq2, -, hr3, hc5⟩ := (h.sl 2 rfl).1.at hy2
   obtain rfl := hr3
   refine zx hp2 hq2 ⟨he2.1, qae he2.2.1 (h.sl 2 rfl).2⟩ rfl (zc 0 hc5 rfl (zp1 rfl ?_))
   obtain ⟨y3, hy3, hF⟩ := qd hF
   have he3 := qf hy3
   obtain ⟨b4, o_3, q3, cs4, hp3, hq3, -, hr4, hc6⟩ := (h.sl 2 rfl).1.at hy3
   obtain rfl := hr4
   refine zx hp3 hq3 ⟨he3.1, qae he3.2.1 (h.sl 2 rfl).2⟩ rfl (qdj qc 2 0 (W64 (y2 + 1)) h rfl hy3 hp3 hq3 rfl hc6 rfl rfl rfl rfl rfl rfl rfl ?_)
   intro w7 h
   refine zNER (zp2 rfl (qb ?_))
   replace h := h.pick [1, 2, 3] rfl
   exact qA m1 [(1, _), (3, _), (30, _), (31, _), (32, _)] (Nat.lt_succ_self m1) ⟨rfl, rfl, rfl, rfl, rfl, trivial⟩ ⟨_, _, hF, rfl, h⟩
  refine zKER (zp2 rfl (qb ?_))
  replace h := h.pick [1, 2, 3] rfl
  exact qA m1 [(1, _), (3, _), (30, _), (31, _), (32, _)] (Nat.lt_succ_self m1) ⟨rfl, rfl, rfl, rfl, rfl, trivial⟩ ⟨_, _, hF, rfl, h⟩
 refine qG rfl ?_
 obtain rfl := qh hF; replace hF := hK1
 refine zSSR (zp1 rfl (zl 2 4 h rfl (zp2 rfl (qb ?_))))
 obtain ⟨o2, hF, hK2⟩ := qd hF
 refine qw ?_
 replace h := h.pick [1] rfl
 refine qP [(3, _), (48, _), (49, _), (50, _)] ⟨rfl, rfl, rfl, rfl, trivial⟩ ?_
 refine qH (fun m e w' => ∃ (i2 : Int), qds b x2 m i2 = some o2 ∧ e = [(3, .slice p6 x1.length x1.length), (48, .slice p5 b.Wires.length k5), (49, .int .i64 (b.Wires.length : Int)), (50, .int .i64 i2)] ∧ SH w w' [Ch.own S1 (x2 : List Int) [.slice p6 x1.length x1.length]]) n ⟨_, hF, rfl, h⟩ ?_
 rintro m2 e2 w8 ⟨i2, hF, rfl, h⟩
 rcases m2 with _ | m2
 ·rw [qds] at hF
  cases hF
 rw [qds] at hF
 refine zSR (zp1 rfl (zNS ?_))
 refine qr rfl hF ?_ ?_ <;> intro hF
 ·refine zKSBSR (zp1 rfl ?_)
  obtain ⟨y4, hy4, hF⟩ := qd hF
  have he4 := qf hy4
  obtain ⟨b5, o_4, q4, cs5, hp4, hq4, -, hr5, hc8⟩ := s5.at hy4
  obtain ⟨p8, k7, p9, k8, p10, k9, p11, k10, rfl, s6, s7, s8, s9⟩ := qbJ hr5
  refine zxe hp4 hq4 he4 rfl (zc 0 (hc8.below h.below) rfl (qaa qc h rfl rfl rfl ?_))
  intro w9 bb3 h
  refine zp1 rfl (zs 0 h rfl ?_)
  intro w10 h
  replace h : SH _ _ [Ch.box bb3 [.slice p8 y4.Parent.length k7, .slice p9 y4.Res.length k8, .slice p10 y4.Cap.length k9, .slice p11 y4.Sink.length k10] 130, Ch.own S1 (x2 : List Int) [.slice p6 x1.length x1.length]] := h
  refine zNS ?_
  refine qcN rfl (by kernel_rfl) ?_
  refine zdl 0 0 h rfl ?_
  refine zd2 rfl ?_
  obtain ⟨y5, hy5, hF⟩ := qd hF
  have he5 := qf hy5
  obtain ⟨b6, o_5, q5, cs6, hp5, hq5, -, hr6, hc9⟩ := (h.sl 1 rfl).1.at hy5
  obtain rfl := hr6
  refine zdx hp5 hq5 ⟨he5.1, qae he5.2.1 (h.sl 1 rfl).2⟩ rfl ?_
  refine zdc 0 hc9 rfl ?_
  obtain ⟨r2, hr7, hF⟩ := qd hF
  refine qcO r2 (vsB _) call149 (fun _ hb => qmX (qiI y4 ((h.ext hb).oldS s6) ((h.ext hb).oldS s7) ((h.ext hb).oldS s8) ((h.ext hb).oldS s9)) hr7) rfl rfl rfl rfl ?_
  refine zd1 rfl ?_
  refine qbj (fun w11 hb => ?_)
  replace h := h.ext hb
  clear hb
  refine qr rfl hF ?_ ?_ <;> intro hF
  ·refine zSR (zp1 rfl (qb ?_))
   obtain rfl := qh hF; replace hF := hK2
   exact qy qc h hF ⟨rfl, trivial⟩
  refine zKER (zp2 rfl (qb ?_))
  replace h := h.pick [1] rfl
  exact qA m2 [(3, _), (48, _), (49, _), (50, _)] (Nat.lt_succ_self m2) ⟨rfl, rfl, rfl, rfl, trivial⟩ ⟨_, hF, rfl, h⟩
 refine qG rfl ?_
 obtain rfl := qh hF; replace hF := hK2
 exact zSR (zp1 rfl (qb (qy qc h hF ⟨rfl, trivial⟩)))

end Go.Fw


namespace Go.Fw
open Go

def qay (a : (List Int)) : Nat := a.length
theorem qcZ {a : (List Int)} (h : (rngL rngI) a) (w : qay a ≤ 1048576) : (okL okI) a :=
  ⟨by simp only [qay] at w; omega, fun x hx => h.2 x hx⟩
def qhk (x : qF) : Prop := (rngL rngI) x.Slews ∧ (rngL rngI) x.Loads ∧ (rngL rngI) x.Values
def qem (x : qF) : Nat := qay x.Slews + qay x.Loads + qay x.Values
structure qhr (x : qF) : Prop where
  Slews : (okL okI) x.Slews
  Loads : (okL okI) x.Loads
  Values : (okL okI) x.Values
theorem qqe {x : qF} (h : qhk x) (w : qem x ≤ 1048576) : qhr x := ⟨qcZ (h.1) (by simp only [qem] at w; omega), qcZ (h.2.1) (by simp only [qem] at w; omega), qcZ (h.2.2) (by simp only [qem] at w; omega)⟩
def qdz (a : (List qF)) : Nat := a.length + (a.map fun x => qem x).sum
theorem ql8 {a : (List qF)} (h : (rngL qhk) a) (w : qdz a ≤ 1048576) : (okL qhr) a :=
  ⟨by simp only [qdz] at w; omega, fun x hx => qqe (h.2 x hx) (by have := qcp (wt := fun x : qF => qem x) hx; simp only [qdz] at w; omega)⟩
def qjS (x : qV) : Prop := rngI x.Kind ∧ rngI x.From ∧ rngI x.To ∧ rngI x.Sense ∧ (rngL qhk) x.Delay ∧ (rngL qhk) x.Slew
def qhS (x : qV) : Nat := qdz x.Delay + qdz x.Slew
structure qk9 (x : qV) : Prop where
  Kind : okI x.Kind
  From : okI x.From
  To : okI x.To
  Sense : okI x.Sense
  Delay : (okL qhr) x.Delay
  Slew : (okL qhr) x.Slew
theorem qrA {x : qV} (h : qjS x) (w : qhS x ≤ 1048576) : qk9 x := ⟨h.1, h.2.1, h.2.2.1, h.2.2.2.1, ql8 (h.2.2.2.2.1) (by simp only [qhS] at w; omega), ql8 (h.2.2.2.2.2) (by simp only [qhS] at w; omega)⟩
theorem qdl {a : (List Int)} (h : qay a ≤ 1048576) : Ev (fun n => qaJ n a a) true := by
  have hl : a.length ≤ 1048576 := by simp only [qay] at h; omega
  unfold qaJ
  exact Ev.ff (by simp) (Ev.bind (b := .nxt (a.length : Int)) (qid (eqf := fun _ x y => some (!(x != y))) (fun x _ => Ev.now (by simp))
    (fun n => by simp only [qdE, qu (Nat.le_refl _), cond_false])
    (fun n j x hx => by
      have hj := (List.getElem?_eq_some_iff.1 hx).1
      simp only [qdE, qt hj, cond_true, qat hx, Option.bind_some, Bool.not_not, qq (show j < 9223372036854775807 by omega)])) .done)

theorem qrL {a : qF} (h : qem a ≤ 1048576) : Ev (fun n => qgA n a a) true := by
  unfold qgA
  simp only [qem] at h
  exact Ev.bind (qdl (a := a.Slews) (by omega)) (Ev.ff rfl (Ev.bind (qdl (a := a.Loads) (by omega)) (Ev.ff rfl (Ev.bind (qdl (a := a.Values) (by omega)) (Ev.ff rfl (.done))))))

theorem qod {a : (List qF)} (h : qdz a ≤ 1048576) : Ev (fun n => qf2 n a a) true := by
  have hl : a.length ≤ 1048576 := by simp only [qdz] at h; omega
  unfold qf2
  exact Ev.ff (by simp) (Ev.bind (b := .nxt (a.length : Int)) (qid (eqf := qgA) (fun x hx => qrL (by have := qcp (wt := fun x : qF => qem x) hx; simp only [qdz] at h; omega))
    (fun n => by simp only [qdF, qu (Nat.le_refl _), cond_false])
    (fun n j x hx => by
      have hj := (List.getElem?_eq_some_iff.1 hx).1
      simp only [qdF, qt hj, cond_true, qat hx, Option.bind_some, qq (show j < 9223372036854775807 by omega)])) .done)

theorem qsS {a : qV} (h : qhS a ≤ 1048576) : Ev (fun n => qhZ n a a) true := by
  unfold qhZ
  simp only [qhS] at h
  exact Ev.ff qbT (Ev.ff qbT (Ev.ff qbT (Ev.ff qbT (Ev.bind (qod (a := a.Delay) (by omega)) (Ev.ff rfl (Ev.bind (qod (a := a.Slew) (by omega)) (Ev.ff rfl (.done))))))))

def qgG (a : (List qV)) : Nat := a.length + (a.map fun x => qhS x).sum
theorem qq7 {a : (List qV)} (h : (rngL qjS) a) (w : qgG a ≤ 1048576) : (okL qk9) a :=
  ⟨by simp only [qgG] at w; omega, fun x hx => qrA (h.2 x hx) (by have := qcp (wt := fun x : qV => qhS x) hx; simp only [qgG] at w; omega)⟩
theorem qr8 {a : (List qV)} (h : qgG a ≤ 1048576) : Ev (fun n => qiv n a a) true := by
  have hl : a.length ≤ 1048576 := by simp only [qgG] at h; omega
  unfold qiv
  exact Ev.ff (by simp) (Ev.bind (b := .nxt (a.length : Int)) (qid (eqf := qhZ) (fun x hx => qsS (by have := qcp (wt := fun x : qV => qhS x) hx; simp only [qgG] at h; omega))
    (fun n => by simp only [qeI, qu (Nat.le_refl _), cond_false])
    (fun n j x hx => by
      have hj := (List.getElem?_eq_some_iff.1 hx).1
      simp only [qeI, qt hj, cond_true, qat hx, Option.bind_some, qq (show j < 9223372036854775807 by omega)])) .done)

def qjN (x : qan) : Prop := rngS x.Name ∧ rngI x.Dir ∧ rngI x.Cap ∧ rngB x.Clock
def qiP (x : qan) : Nat := x.Name.size
structure qki (x : qan) : Prop where
  Name : okS x.Name
  Dir : okI x.Dir
  Cap : okI x.Cap
  Clock : okT x.Clock
theorem qrP {x : qan} (h : qjN x) (w : qiP x ≤ 1048576) : qki x := ⟨(by unfold okS; simp only [qiP] at w; omega), h.2.1, h.2.2.1, trivial⟩
def qgF (a : (List qan)) : Nat := a.length + (a.map fun x => qiP x).sum
theorem qqQ {a : (List qan)} (h : (rngL qjN) a) (w : qgF a ≤ 1048576) : (okL qki) a :=
  ⟨by simp only [qgF] at w; omega, fun x hx => qrP (h.2 x hx) (by have := qcp (wt := fun x : qan => qiP x) hx; simp only [qgF] at w; omega)⟩
def qiM (x : qC) : Prop := rngS x.Name ∧ rngI x.Kind ∧ (rngL qjN) x.Pins ∧ (rngL qjS) x.Arcs ∧ (rngL rngI) x.Truth ∧ rngI x.Leak ∧ rngI x.Energy
def qfp (x : qC) : Nat := x.Name.size + qgF x.Pins + qgG x.Arcs + qay x.Truth
structure qkx (x : qC) : Prop where
  Name : okS x.Name
  Kind : okI x.Kind
  Pins : (okL qki) x.Pins
  Arcs : (okL qk9) x.Arcs
  Truth : (okL okI) x.Truth
  Leak : okI x.Leak
  Energy : okI x.Energy
theorem qqG {x : qC} (h : qiM x) (w : qfp x ≤ 1048576) : qkx x := ⟨(by unfold okS; simp only [qfp] at w; omega), h.2.1, qqQ (h.2.2.1) (by simp only [qfp] at w; omega), qq7 (h.2.2.2.1) (by simp only [qfp] at w; omega), qcZ (h.2.2.2.2.1) (by simp only [qfp] at w; omega), h.2.2.2.2.2.1, h.2.2.2.2.2.2⟩
def qfE (a : (List qC)) : Nat := a.length + (a.map fun x => qfp x).sum
theorem qpC {a : (List qC)} (h : (rngL qiM) a) (w : qfE a ≤ 1048576) : (okL qkx) a :=
  ⟨by simp only [qfE] at w; omega, fun x hx => qqG (h.2 x hx) (by have := qcp (wt := fun x : qC => qfp x) hx; simp only [qfE] at w; omega)⟩
def qi8 (x : qv) : Prop := (rngL qiM) x.Cells
def qeq (x : qv) : Nat := qfE x.Cells
structure qg3 (x : qv) : Prop where
  Cells : (okL qkx) x.Cells
theorem qoJ {x : qv} (h : qi8 x) (w : qeq x ≤ 1048576) : qg3 x := ⟨qpC (h) (by simp only [qeq] at w; omega)⟩
def qfR (x : qm) : Prop := rngS x.Name ∧ rngI x.Cell ∧ (rngL rngI) x.Nets
def qbW (x : qm) : Nat := x.Name.size + qay x.Nets
structure qkc (x : qm) : Prop where
  Name : okS x.Name
  Cell : okI x.Cell
  Nets : (okL okI) x.Nets
theorem qnG {x : qm} (h : qfR x) (w : qbW x ≤ 1048576) : qkc x := ⟨(by unfold okS; simp only [qbW] at w; omega), h.2.1, qcZ (h.2.2) (by simp only [qbW] at w; omega)⟩
def qb5 (a : (List qm)) : Nat := a.length + (a.map fun x => qbW x).sum
theorem qm8 {a : (List qm)} (h : (rngL qfR) a) (w : qb5 a ≤ 1048576) : (okL qkc) a :=
  ⟨by simp only [qb5] at w; omega, fun x hx => qnG (h.2 x hx) (by have := qcp (wt := fun x : qm => qbW x) hx; simp only [qb5] at w; omega)⟩
def qes (a : (List ByteArray)) : Nat := a.length + (a.map fun x => x.size).sum
theorem qoE {a : (List ByteArray)} (_ : (rngL rngS) a) (w : qes a ≤ 1048576) : (okL okS) a :=
  ⟨by simp only [qes] at w; omega, fun x hx => (by unfold okS; have := qcp (wt := fun x : ByteArray => x.size) hx; simp only [qes] at w; omega)⟩
def qi0 (x : qX) : Prop := rngS x.Name ∧ rngI x.Dir ∧ rngI x.Net
def qg4 (x : qX) : Nat := x.Name.size
structure qop (x : qX) : Prop where
  Name : okS x.Name
  Dir : okI x.Dir
  Net : okI x.Net
theorem qqx {x : qX} (h : qi0 x) (w : qg4 x ≤ 1048576) : qop x := ⟨(by unfold okS; simp only [qg4] at w; omega), h.2.1, h.2.2⟩
def qfG (a : (List qX)) : Nat := a.length + (a.map fun x => qg4 x).sum
theorem qp7 {a : (List qX)} (h : (rngL qi0) a) (w : qfG a ≤ 1048576) : (okL qop) a :=
  ⟨by simp only [qfG] at w; omega, fun x hx => qqx (h.2 x hx) (by have := qcp (wt := fun x : qX => qg4 x) hx; simp only [qfG] at w; omega)⟩
def qjP (x : qj) : Prop := (rngL qfR) x.Instances ∧ (rngL rngS) x.Nets ∧ (rngL qi0) x.Ports
def qeG (x : qj) : Nat := qb5 x.Instances + qes x.Nets + qfG x.Ports
structure qiJ (x : qj) : Prop where
  Instances : (okL qkc) x.Instances
  Nets : (okL okS) x.Nets
  Ports : (okL qop) x.Ports
theorem qoR {x : qj} (h : qjP x) (w : qeG x ≤ 1048576) : qiJ x := ⟨qm8 (h.1) (by simp only [qeG] at w; omega), qoE (h.2.1) (by simp only [qeG] at w; omega), qp7 (h.2.2) (by simp only [qeG] at w; omega)⟩
def qiR (x : qS) : Prop := (rngL rngI) x.Parent ∧ (rngL rngI) x.Res ∧ (rngL rngI) x.Cap ∧ (rngL rngI) x.Sink
def qfB (x : qS) : Nat := qay x.Parent + qay x.Res + qay x.Cap + qay x.Sink
structure qli (x : qS) : Prop where
  Parent : (okL okI) x.Parent
  Res : (okL okI) x.Res
  Cap : (okL okI) x.Cap
  Sink : (okL okI) x.Sink
theorem qqY {x : qS} (h : qiR x) (w : qfB x ≤ 1048576) : qli x := ⟨qcZ (h.1) (by simp only [qfB] at w; omega), qcZ (h.2.1) (by simp only [qfB] at w; omega), qcZ (h.2.2.1) (by simp only [qfB] at w; omega), qcZ (h.2.2.2) (by simp only [qfB] at w; omega)⟩
def qfO (a : (List qS)) : Nat := a.length + (a.map fun x => qfB x).sum
theorem qpA {a : (List qS)} (h : (rngL qiR) a) (w : qfO a ≤ 1048576) : (okL qli) a :=
  ⟨by simp only [qfO] at w; omega, fun x hx => qqY (h.2 x hx) (by have := qcp (wt := fun x : qS => qfB x) hx; simp only [qfO] at w; omega)⟩
def qkz (x : qz) : Prop := qi8 x.Library ∧ qjP x.Design ∧ (rngL qiR) x.Wires
def qfJ (x : qz) : Nat := qeq x.Library + qeG x.Design + qfO x.Wires
structure qfT (x : qz) : Prop where
  Library : qg3 x.Library
  Design : qiJ x.Design
  Wires : (okL qli) x.Wires
theorem qpw {x : qz} (h : qkz x) (w : qfJ x ≤ 1048576) : qfT x := ⟨qoJ (h.1) (by simp only [qfJ] at w; omega), qoR (h.2.1) (by simp only [qfJ] at w; omega), qpA (h.2.2) (by simp only [qfJ] at w; omega)⟩
theorem qsK {a : qan} (_ : qiP a ≤ 1048576) : Ev (fun n => qh8 n a a) true := by
  unfold qh8
  exact Ev.ff qiD (Ev.ff qbT (Ev.ff qbT (Ev.ff qoq (.done))))

theorem qsc {a : (List qan)} (h : qgF a ≤ 1048576) : Ev (fun n => qio n a a) true := by
  have hl : a.length ≤ 1048576 := by simp only [qgF] at h; omega
  unfold qio
  exact Ev.ff (by simp) (Ev.bind (b := .nxt (a.length : Int)) (qid (eqf := qh8) (fun x hx => qsK (by have := qcp (wt := fun x : qan => qiP x) hx; simp only [qgF] at h; omega))
    (fun n => by simp only [qeJ, qu (Nat.le_refl _), cond_false])
    (fun n j x hx => by
      have hj := (List.getElem?_eq_some_iff.1 hx).1
      simp only [qeJ, qt hj, cond_true, qat hx, Option.bind_some, qq (show j < 9223372036854775807 by omega)])) .done)

theorem qss {a : qC} (h : qfp a ≤ 1048576) : Ev (fun n => qhb n a a) true := by
  unfold qhb
  simp only [qfp] at h
  exact Ev.ff qiD (Ev.ff qbT (Ev.bind (qsc (a := a.Pins) (by omega)) (Ev.ff rfl (Ev.bind (qr8 (a := a.Arcs) (by omega)) (Ev.ff rfl (Ev.bind (qdl (a := a.Truth) (by omega)) (Ev.ff rfl (Ev.ff qbT (Ev.ff qbT (.done))))))))))

theorem qrD {a : (List qC)} (h : qfE a ≤ 1048576) : Ev (fun n => qhR n a a) true := by
  have hl : a.length ≤ 1048576 := by simp only [qfE] at h; omega
  unfold qhR
  exact Ev.ff (by simp) (Ev.bind (b := .nxt (a.length : Int)) (qid (eqf := qhb) (fun x hx => qss (by have := qcp (wt := fun x : qC => qfp x) hx; simp only [qfE] at h; omega))
    (fun n => by simp only [qd9, qu (Nat.le_refl _), cond_false])
    (fun n j x hx => by
      have hj := (List.getElem?_eq_some_iff.1 hx).1
      simp only [qd9, qt hj, cond_true, qat hx, Option.bind_some, qq (show j < 9223372036854775807 by omega)])) .done)

theorem qp3 {a : qv} (h : qeq a ≤ 1048576) : Ev (fun n => qgk n a a) true := by
  unfold qgk
  simp only [qeq] at h
  exact Ev.bind (qrD (a := a.Cells) (by omega)) (Ev.ff rfl (.done))

theorem qpo {a : qm} (h : qbW a ≤ 1048576) : Ev (fun n => qeU n a a) true := by
  unfold qeU
  simp only [qbW] at h
  exact Ev.ff qiD (Ev.ff qbT (Ev.bind (qdl (a := a.Nets) (by omega)) (Ev.ff rfl (.done))))

theorem qoG {a : (List qm)} (h : qb5 a ≤ 1048576) : Ev (fun n => qfm n a a) true := by
  have hl : a.length ≤ 1048576 := by simp only [qb5] at h; omega
  unfold qfm
  exact Ev.ff (by simp) (Ev.bind (b := .nxt (a.length : Int)) (qid (eqf := qeU) (fun x hx => qpo (by have := qcp (wt := fun x : qm => qbW x) hx; simp only [qb5] at h; omega))
    (fun n => by simp only [qcq, qu (Nat.le_refl _), cond_false])
    (fun n j x hx => by
      have hj := (List.getElem?_eq_some_iff.1 hx).1
      simp only [qcq, qt hj, cond_true, qat hx, Option.bind_some, qq (show j < 9223372036854775807 by omega)])) .done)

theorem qpI {a : (List ByteArray)} (h : qes a ≤ 1048576) : Ev (fun n => qgj n a a) true := by
  have hl : a.length ≤ 1048576 := by simp only [qes] at h; omega
  unfold qgj
  exact Ev.ff (by simp) (Ev.bind (b := .nxt (a.length : Int)) (qid (eqf := fun _ x y => some (!(x.toList != y.toList))) (fun x _ => Ev.now (by simp))
    (fun n => by simp only [qdd, qu (Nat.le_refl _), cond_false])
    (fun n j x hx => by
      have hj := (List.getElem?_eq_some_iff.1 hx).1
      simp only [qdd, qt hj, cond_true, qat hx, Option.bind_some, Bool.not_not, qq (show j < 9223372036854775807 by omega)])) .done)

theorem qr1 {a : qX} (_ : qg4 a ≤ 1048576) : Ev (fun n => qhl n a a) true := by
  unfold qhl
  exact Ev.ff qiD (Ev.ff qbT (Ev.ff qbT (.done)))

theorem qrn {a : (List qX)} (h : qfG a ≤ 1048576) : Ev (fun n => qhy n a a) true := by
  have hl : a.length ≤ 1048576 := by simp only [qfG] at h; omega
  unfold qhy
  exact Ev.ff (by simp) (Ev.bind (b := .nxt (a.length : Int)) (qid (eqf := qhl) (fun x hx => qr1 (by have := qcp (wt := fun x : qX => qg4 x) hx; simp only [qfG] at h; omega))
    (fun n => by simp only [qeb, qu (Nat.le_refl _), cond_false])
    (fun n j x hx => by
      have hj := (List.getElem?_eq_some_iff.1 hx).1
      simp only [qeb, qt hj, cond_true, qat hx, Option.bind_some, qq (show j < 9223372036854775807 by omega)])) .done)

theorem qqT {a : qj} (h : qeG a ≤ 1048576) : Ev (fun n => qgM n a a) true := by
  unfold qgM
  simp only [qeG] at h
  exact Ev.bind (qoG (a := a.Instances) (by omega)) (Ev.ff rfl (Ev.bind (qpI (a := a.Nets) (by omega)) (Ev.ff rfl (Ev.bind (qrn (a := a.Ports) (by omega)) (Ev.ff rfl (.done))))))

theorem qsq {a : qS} (h : qfB a ≤ 1048576) : Ev (fun n => qhi n a a) true := by
  unfold qhi
  simp only [qfB] at h
  exact Ev.bind (qdl (a := a.Parent) (by omega)) (Ev.ff rfl (Ev.bind (qdl (a := a.Res) (by omega)) (Ev.ff rfl (Ev.bind (qdl (a := a.Cap) (by omega)) (Ev.ff rfl (Ev.bind (qdl (a := a.Sink) (by omega)) (Ev.ff rfl (.done))))))))

theorem qrX {a : (List qS)} (h : qfO a ≤ 1048576) : Ev (fun n => qhK n a a) true := by
  have hl : a.length ≤ 1048576 := by simp only [qfO] at h; omega
  unfold qhK
  exact Ev.ff (by simp) (Ev.bind (b := .nxt (a.length : Int)) (qid (eqf := qhi) (fun x hx => qsq (by have := qcp (wt := fun x : qS => qfB x) hx; simp only [qfO] at h; omega))
    (fun n => by simp only [qd8, qu (Nat.le_refl _), cond_false])
    (fun n j x hx => by
      have hj := (List.getElem?_eq_some_iff.1 hx).1
      simp only [qd8, qt hj, cond_true, qat hx, Option.bind_some, qq (show j < 9223372036854775807 by omega)])) .done)

theorem qrc {a : qz} (h : qfJ a ≤ 1048576) : Ev (fun n => qhE n a a) true := by
  unfold qhE
  simp only [qfJ] at h
  exact Ev.bind (qp3 (a := a.Library) (by omega)) (Ev.ff rfl (Ev.bind (qqT (a := a.Design) (by omega)) (Ev.ff rfl (Ev.bind (qrX (a := a.Wires) (by omega)) (Ev.ff rfl (.done))))))

theorem qeV {a : (List Int)} {left : Int} (h : (rngL rngI) a) (h0 : 0 ≤ left) (h1 : left ≤ 1048576) : Sz (fun n => qbr n a left) (fun r => r = left - (qay a : Int)) :=
  Sz.less h0 h1 (by omega) (by have := h.1; omega) (fun _ => rfl)

theorem qrE {a : qF} {left : Int} (h : qhk a) (h0 : 0 ≤ left) (h1 : left ≤ 1048576) : Sz (fun n => qgD n a left) (fun r => r = left - (qem a : Int)) := by
  unfold qgD
  obtain ⟨h_0, h_1, h_2⟩ := h
  exact Sz.step (qeV (a := a.Slews) h_0 (by omega) (by omega)) fun r0 p0 q0 => Sz.step (qeV (a := a.Loads) h_1 (by omega) (by omega)) fun r1 p1 q1 => Sz.step (qeV (a := a.Values) h_2 (by omega) (by omega)) fun r2 p2 q2 => Sz.done p2 (by simp only [qem]; omega)

theorem qnZ {a : (List qF)} {left : Int} (h : (rngL qhk) a) (h0 : 0 ≤ left) (h1 : left ≤ 1048576) : Sz (fun n => qgI n a left) (fun r => r = left - (qdz a : Int)) :=
  Sz.list (Lf := qcT a) (wt := fun x : qF => qem x) (el := qgD) h0 h1 h.1 (fun x hx left p q => qrE (h.2 x hx) p q)
    (fun acc n => by simp only [qcT, qu (Nat.le_refl _), cond_false])
    (fun acc n j x hx => by
      have hj := (List.getElem?_eq_some_iff.1 hx).1
      have hl := h.1
      simp only [qcT, qt hj, cond_true, qat hx, Option.bind_some, qq (show j < 9223372036854775807 by omega)])
    (fun _ => rfl)

theorem qsN {a : qV} {left : Int} (h : qjS a) (h0 : 0 ≤ left) (h1 : left ≤ 1048576) : Sz (fun n => qh7 n a left) (fun r => r = left - (qhS a : Int)) := by
  unfold qh7
  obtain ⟨h_0, h_1, h_2, h_3, h_4, h_5⟩ := h
  exact Sz.step (qnZ (a := a.Delay) h_4 (by omega) (by omega)) fun r0 p0 q0 => Sz.step (qnZ (a := a.Slew) h_5 (by omega) (by omega)) fun r1 p1 q1 => Sz.done p1 (by simp only [qhS]; omega)

theorem qso {a : (List qV)} {left : Int} (h : (rngL qjS) a) (h0 : 0 ≤ left) (h1 : left ≤ 1048576) : Sz (fun n => qjc n a left) (fun r => r = left - (qgG a : Int)) :=
  Sz.list (Lf := qdY a) (wt := fun x : qV => qhS x) (el := qh7) h0 h1 h.1 (fun x hx left p q => qsN (h.2 x hx) p q)
    (fun acc n => by simp only [qdY, qu (Nat.le_refl _), cond_false])
    (fun acc n j x hx => by
      have hj := (List.getElem?_eq_some_iff.1 hx).1
      have hl := h.1
      simp only [qdY, qt hj, cond_true, qat hx, Option.bind_some, qq (show j < 9223372036854775807 by omega)])
    (fun _ => rfl)

theorem qsM {a : qan} {left : Int} (h : qjN a) (h0 : 0 ≤ left) (h1 : left ≤ 1048576) : Sz (fun n => qhV n a left) (fun r => r = left - (qiP a : Int)) := by
  unfold qhV
  obtain ⟨h_0, h_1, h_2, h_3⟩ := h
  exact Sz.strStep h_0 (by omega) (by omega) fun p0 q0 => Sz.done p0 (by simp only [qiP]; omega)

theorem qsp {a : (List qan)} {left : Int} (h : (rngL qjN) a) (h0 : 0 ≤ left) (h1 : left ≤ 1048576) : Sz (fun n => qjb n a left) (fun r => r = left - (qgF a : Int)) :=
  Sz.list (Lf := qd1 a) (wt := fun x : qan => qiP x) (el := qhV) h0 h1 h.1 (fun x hx left p q => qsM (h.2 x hx) p q)
    (fun acc n => by simp only [qd1, qu (Nat.le_refl _), cond_false])
    (fun acc n j x hx => by
      have hj := (List.getElem?_eq_some_iff.1 hx).1
      have hl := h.1
      simp only [qd1, qt hj, cond_true, qat hx, Option.bind_some, qq (show j < 9223372036854775807 by omega)])
    (fun _ => rfl)

theorem qsb {a : qC} {left : Int} (h : qiM a) (h0 : 0 ≤ left) (h1 : left ≤ 1048576) : Sz (fun n => qhg n a left) (fun r => r = left - (qfp a : Int)) := by
  unfold qhg
  obtain ⟨h_0, h_1, h_2, h_3, h_4, h_5, h_6⟩ := h
  exact Sz.strStep h_0 (by omega) (by omega) fun p0 q0 => Sz.step (qsp (a := a.Pins) h_2 (by omega) (by omega)) fun r1 p1 q1 => Sz.step (qso (a := a.Arcs) h_3 (by omega) (by omega)) fun r2 p2 q2 => Sz.step (qeV (a := a.Truth) h_4 (by omega) (by omega)) fun r3 p3 q3 => Sz.done p3 (by simp only [qfp]; omega)

theorem qrp {a : (List qC)} {left : Int} (h : (rngL qiM) a) (h0 : 0 ≤ left) (h1 : left ≤ 1048576) : Sz (fun n => qiE n a left) (fun r => r = left - (qfE a : Int)) :=
  Sz.list (Lf := qdr a) (wt := fun x : qC => qfp x) (el := qhg) h0 h1 h.1 (fun x hx left p q => qsb (h.2 x hx) p q)
    (fun acc n => by simp only [qdr, qu (Nat.le_refl _), cond_false])
    (fun acc n j x hx => by
      have hj := (List.getElem?_eq_some_iff.1 hx).1
      have hl := h.1
      simp only [qdr, qt hj, cond_true, qat hx, Option.bind_some, qq (show j < 9223372036854775807 by omega)])
    (fun _ => rfl)

theorem qqa {a : qv} {left : Int} (h : qi8 a) (h0 : 0 ≤ left) (h1 : left ≤ 1048576) : Sz (fun n => qgf n a left) (fun r => r = left - (qeq a : Int)) := by
  unfold qgf
  have h_0 := h
  exact Sz.step (qrp (a := a.Cells) h_0 (by omega) (by omega)) fun r0 p0 q0 => Sz.done p0 (by simp only [qeq]; omega)

theorem qoQ {a : qm} {left : Int} (h : qfR a) (h0 : 0 ≤ left) (h1 : left ≤ 1048576) : Sz (fun n => qeT n a left) (fun r => r = left - (qbW a : Int)) := by
  unfold qeT
  obtain ⟨h_0, h_1, h_2⟩ := h
  exact Sz.strStep h_0 (by omega) (by omega) fun p0 q0 => Sz.step (qeV (a := a.Nets) h_2 (by omega) (by omega)) fun r1 p1 q1 => Sz.done p1 (by simp only [qbW]; omega)

theorem qoF {a : (List qm)} {left : Int} (h : (rngL qfR) a) (h0 : 0 ≤ left) (h1 : left ≤ 1048576) : Sz (fun n => qgy n a left) (fun r => r = left - (qb5 a : Int)) :=
  Sz.list (Lf := qbV a) (wt := fun x : qm => qbW x) (el := qeT) h0 h1 h.1 (fun x hx left p q => qoQ (h.2 x hx) p q)
    (fun acc n => by simp only [qbV, qu (Nat.le_refl _), cond_false])
    (fun acc n j x hx => by
      have hj := (List.getElem?_eq_some_iff.1 hx).1
      have hl := h.1
      simp only [qbV, qt hj, cond_true, qat hx, Option.bind_some, qq (show j < 9223372036854775807 by omega)])
    (fun _ => rfl)

theorem qpX {a : (List ByteArray)} {left : Int} (h : (rngL rngS) a) (h0 : 0 ≤ left) (h1 : left ≤ 1048576) : Sz (fun n => qhp n a left) (fun r => r = left - (qes a : Int)) :=
  Sz.list (Lf := qcy a) (wt := fun x : ByteArray => x.size) (el := fun _ (x : ByteArray) acc => some (W64 (acc - (x.size : Int)))) h0 h1 h.1 (fun x hx left p q => Sz.str (h.2 x hx) p q)
    (fun acc n => by simp only [qcy, qu (Nat.le_refl _), cond_false])
    (fun acc n j x hx => by
      have hj := (List.getElem?_eq_some_iff.1 hx).1
      have hl := h.1
      simp only [qcy, qt hj, cond_true, qat hx, Option.bind_some, qq (show j < 9223372036854775807 by omega)])
    (fun _ => rfl)

theorem qsd {a : qX} {left : Int} (h : qi0 a) (h0 : 0 ≤ left) (h1 : left ≤ 1048576) : Sz (fun n => qg5 n a left) (fun r => r = left - (qg4 a : Int)) := by
  unfold qg5
  obtain ⟨h_0, h_1, h_2⟩ := h
  exact Sz.strStep h_0 (by omega) (by omega) fun p0 q0 => Sz.done p0 (by simp only [qg4]; omega)

theorem qr0 {a : (List qX)} {left : Int} (h : (rngL qi0) a) (h0 : 0 ≤ left) (h1 : left ≤ 1048576) : Sz (fun n => qiH n a left) (fun r => r = left - (qfG a : Int)) :=
  Sz.list (Lf := qdt a) (wt := fun x : qX => qg4 x) (el := qg5) h0 h1 h.1 (fun x hx left p q => qsd (h.2 x hx) p q)
    (fun acc n => by simp only [qdt, qu (Nat.le_refl _), cond_false])
    (fun acc n j x hx => by
      have hj := (List.getElem?_eq_some_iff.1 hx).1
      have hl := h.1
      simp only [qdt, qt hj, cond_true, qat hx, Option.bind_some, qq (show j < 9223372036854775807 by omega)])
    (fun _ => rfl)

theorem qq5 {a : qj} {left : Int} (h : qjP a) (h0 : 0 ≤ left) (h1 : left ≤ 1048576) : Sz (fun n => qgS n a left) (fun r => r = left - (qeG a : Int)) := by
  unfold qgS
  obtain ⟨h_0, h_1, h_2⟩ := h
  exact Sz.step (qoF (a := a.Instances) h_0 (by omega) (by omega)) fun r0 p0 q0 => Sz.step (qpX (a := a.Nets) h_1 (by omega) (by omega)) fun r1 p1 q1 => Sz.step (qr0 (a := a.Ports) h_2 (by omega) (by omega)) fun r2 p2 q2 => Sz.done p2 (by simp only [qeG]; omega)

theorem qse {a : qS} {left : Int} (h : qiR a) (h0 : 0 ≤ left) (h1 : left ≤ 1048576) : Sz (fun n => qhc n a left) (fun r => r = left - (qfB a : Int)) := by
  unfold qhc
  obtain ⟨h_0, h_1, h_2, h_3⟩ := h
  exact Sz.step (qeV (a := a.Parent) h_0 (by omega) (by omega)) fun r0 p0 q0 => Sz.step (qeV (a := a.Res) h_1 (by omega) (by omega)) fun r1 p1 q1 => Sz.step (qeV (a := a.Cap) h_2 (by omega) (by omega)) fun r2 p2 q2 => Sz.step (qeV (a := a.Sink) h_3 (by omega) (by omega)) fun r3 p3 q3 => Sz.done p3 (by simp only [qfB]; omega)

theorem qrk {a : (List qS)} {left : Int} (h : (rngL qiR) a) (h0 : 0 ≤ left) (h1 : left ≤ 1048576) : Sz (fun n => qiF n a left) (fun r => r = left - (qfO a : Int)) :=
  Sz.list (Lf := qdx a) (wt := fun x : qS => qfB x) (el := qhc) h0 h1 h.1 (fun x hx left p q => qse (h.2 x hx) p q)
    (fun acc n => by simp only [qdx, qu (Nat.le_refl _), cond_false])
    (fun acc n j x hx => by
      have hj := (List.getElem?_eq_some_iff.1 hx).1
      have hl := h.1
      simp only [qdx, qt hj, cond_true, qat hx, Option.bind_some, qq (show j < 9223372036854775807 by omega)])
    (fun _ => rfl)

theorem qrZ {a : qz} {left : Int} (h : qkz a) (h0 : 0 ≤ left) (h1 : left ≤ 1048576) : Sz (fun n => qhs n a left) (fun r => r = left - (qfJ a : Int)) := by
  unfold qhs
  obtain ⟨h_0, h_1, h_2⟩ := h
  exact Sz.step (qqa (a := a.Library) h_0 (by omega) (by omega)) fun r0 p0 q0 => Sz.step (qq5 (a := a.Design) h_1 (by omega) (by omega)) fun r1 p1 q1 => Sz.step (qrk (a := a.Wires) h_2 (by omega) (by omega)) fun r2 p2 q2 => Sz.done p2 (by simp only [qfJ]; omega)

theorem qdm {a : (List Int)} (h : qay a ≤ 1048576) : Ev (fun n => qaK n a) a := by
  have hl : a.length ≤ 1048576 := by simp only [qay] at h; omega
  unfold qaK
  exact Ev.bindN (qhJ (by omega)) (Ev.bind (b := (a, (a.length : Int))) (qib (cp := fun _ x => some x) (fun _ _ => .done)
    (fun acc n => by simp only [qdC, qu (Nat.le_refl _), cond_false])
    (fun acc n j x y hx hy => by
      have hj := (List.getElem?_eq_some_iff.1 hx).1
      simp only [qdC, qt hj, cond_true, qat hx, qat hy, Option.bind_some, qq (show j < 9223372036854775807 by omega)])) .done)

theorem qry {a : qF} (h : qem a ≤ 1048576) : Ev (fun n => qgv n a) a := by
  unfold qgv
  simp only [qem] at h
  exact Ev.bind (qdm (a := a.Slews) (by omega)) (Ev.bind (qdm (a := a.Loads) (by omega)) (Ev.bind (qdm (a := a.Values) (by omega)) (.done)))

theorem qn3 {a : (List qF)} (h : qdz a ≤ 1048576) : Ev (fun n => qf0 n a) a := by
  have hl : a.length ≤ 1048576 := by simp only [qdz] at h; omega
  unfold qf0
  exact Ev.bindN (qhJ (by omega)) (Ev.bind (b := (a, (a.length : Int))) (qib (cp := qgv) (fun x hx => qry (by have := qcp (wt := fun x : qF => qem x) hx; simp only [qdz] at h; omega))
    (fun acc n => by simp only [qdA, qu (Nat.le_refl _), cond_false])
    (fun acc n j x y hx hy => by
      have hj := (List.getElem?_eq_some_iff.1 hx).1
      simp only [qdA, qt hj, cond_true, qat hx, qat hy, Option.bind_some, qq (show j < 9223372036854775807 by omega)])) .done)

theorem qsR {a : qV} (h : qhS a ≤ 1048576) : Ev (fun n => qh4 n a) a := by
  unfold qh4
  simp only [qhS] at h
  exact Ev.bind (qn3 (a := a.Delay) (by omega)) (Ev.bind (qn3 (a := a.Slew) (by omega)) (.done))

theorem qr9 {a : (List qV)} (h : qgG a ≤ 1048576) : Ev (fun n => qig n a) a := by
  have hl : a.length ≤ 1048576 := by simp only [qgG] at h; omega
  unfold qig
  exact Ev.bindN (qhJ (by omega)) (Ev.bind (b := (a, (a.length : Int))) (qib (cp := qh4) (fun x hx => qsR (by have := qcp (wt := fun x : qV => qhS x) hx; simp only [qgG] at h; omega))
    (fun acc n => by simp only [qeM, qu (Nat.le_refl _), cond_false])
    (fun acc n j x y hx hy => by
      have hj := (List.getElem?_eq_some_iff.1 hx).1
      simp only [qeM, qt hj, cond_true, qat hx, qat hy, Option.bind_some, qq (show j < 9223372036854775807 by omega)])) .done)

theorem qsL {a : qan} (_ : qiP a ≤ 1048576) : Ev (fun n => qh3 n a) a := by
  unfold qh3
  exact .done

theorem qr2 {a : (List qan)} (h : qgF a ≤ 1048576) : Ev (fun n => qis n a) a := by
  have hl : a.length ≤ 1048576 := by simp only [qgF] at h; omega
  unfold qis
  exact Ev.bindN (qhJ (by omega)) (Ev.bind (b := (a, (a.length : Int))) (qib (cp := qh3) (fun x hx => qsL (by have := qcp (wt := fun x : qan => qiP x) hx; simp only [qgF] at h; omega))
    (fun acc n => by simp only [qeC, qu (Nat.le_refl _), cond_false])
    (fun acc n j x y hx hy => by
      have hj := (List.getElem?_eq_some_iff.1 hx).1
      simp only [qeC, qt hj, cond_true, qat hx, qat hy, Option.bind_some, qq (show j < 9223372036854775807 by omega)])) .done)

theorem qsu {a : qC} (h : qfp a ≤ 1048576) : Ev (fun n => qhe n a) a := by
  unfold qhe
  simp only [qfp] at h
  exact Ev.bind (qr2 (a := a.Pins) (by omega)) (Ev.bind (qr9 (a := a.Arcs) (by omega)) (Ev.bind (qdm (a := a.Truth) (by omega)) (.done)))

theorem qrY {a : (List qC)} (h : qfE a ≤ 1048576) : Ev (fun n => qhM n a) a := by
  have hl : a.length ≤ 1048576 := by simp only [qfE] at h; omega
  unfold qhM
  exact Ev.bindN (qhJ (by omega)) (Ev.bind (b := (a, (a.length : Int))) (qib (cp := qhe) (fun x hx => qsu (by have := qcp (wt := fun x : qC => qfp x) hx; simp only [qfE] at h; omega))
    (fun acc n => by simp only [qea, qu (Nat.le_refl _), cond_false])
    (fun acc n j x y hx hy => by
      have hj := (List.getElem?_eq_some_iff.1 hx).1
      simp only [qea, qt hj, cond_true, qat hx, qat hy, Option.bind_some, qq (show j < 9223372036854775807 by omega)])) .done)

theorem qpv {a : qv} (h : qeq a ≤ 1048576) : Ev (fun n => qgm n a) a := by
  unfold qgm
  simp only [qeq] at h
  exact Ev.bind (qrY (a := a.Cells) (by omega)) (.done)

theorem qo9 {a : qm} (h : qbW a ≤ 1048576) : Ev (fun n => qeS n a) a := by
  unfold qeS
  simp only [qbW] at h
  exact Ev.bind (qdm (a := a.Nets) (by omega)) (.done)

theorem qoA {a : (List qm)} (h : qb5 a ≤ 1048576) : Ev (fun n => qfn n a) a := by
  have hl : a.length ≤ 1048576 := by simp only [qb5] at h; omega
  unfold qfn
  exact Ev.bindN (qhJ (by omega)) (Ev.bind (b := (a, (a.length : Int))) (qib (cp := qeS) (fun x hx => qo9 (by have := qcp (wt := fun x : qm => qbW x) hx; simp only [qb5] at h; omega))
    (fun acc n => by simp only [qcs, qu (Nat.le_refl _), cond_false])
    (fun acc n j x y hx hy => by
      have hj := (List.getElem?_eq_some_iff.1 hx).1
      simp only [qcs, qt hj, cond_true, qat hx, qat hy, Option.bind_some, qq (show j < 9223372036854775807 by omega)])) .done)

theorem qpy {a : (List ByteArray)} (h : qes a ≤ 1048576) : Ev (fun n => qgd n a) a := by
  have hl : a.length ≤ 1048576 := by simp only [qes] at h; omega
  unfold qgd
  exact Ev.bindN (qhJ (by omega)) (Ev.bind (b := (a, (a.length : Int))) (qib (cp := fun _ x => some x) (fun _ _ => .done)
    (fun acc n => by simp only [qde, qu (Nat.le_refl _), cond_false])
    (fun acc n j x y hx hy => by
      have hj := (List.getElem?_eq_some_iff.1 hx).1
      simp only [qde, qt hj, cond_true, qat hx, qat hy, Option.bind_some, qq (show j < 9223372036854775807 by omega)])) .done)

theorem qr5 {a : qX} (_ : qg4 a ≤ 1048576) : Ev (fun n => qhf n a) a := by
  unfold qhf
  exact .done

theorem qrs {a : (List qX)} (h : qfG a ≤ 1048576) : Ev (fun n => qhm n a) a := by
  have hl : a.length ≤ 1048576 := by simp only [qfG] at h; omega
  unfold qhm
  exact Ev.bindN (qhJ (by omega)) (Ev.bind (b := (a, (a.length : Int))) (qib (cp := qhf) (fun x hx => qr5 (by have := qcp (wt := fun x : qX => qg4 x) hx; simp only [qfG] at h; omega))
    (fun acc n => by simp only [qef, qu (Nat.le_refl _), cond_false])
    (fun acc n j x y hx hy => by
      have hj := (List.getElem?_eq_some_iff.1 hx).1
      simp only [qef, qt hj, cond_true, qat hx, qat hy, Option.bind_some, qq (show j < 9223372036854775807 by omega)])) .done)

theorem qqy {a : qj} (h : qeG a ≤ 1048576) : Ev (fun n => qgQ n a) a := by
  unfold qgQ
  simp only [qeG] at h
  exact Ev.bind (qoA (a := a.Instances) (by omega)) (Ev.bind (qpy (a := a.Nets) (by omega)) (Ev.bind (qrs (a := a.Ports) (by omega)) (.done)))

theorem qsm {a : qS} (h : qfB a ≤ 1048576) : Ev (fun n => qg9 n a) a := by
  unfold qg9
  simp only [qfB] at h
  exact Ev.bind (qdm (a := a.Parent) (by omega)) (Ev.bind (qdm (a := a.Res) (by omega)) (Ev.bind (qdm (a := a.Cap) (by omega)) (Ev.bind (qdm (a := a.Sink) (by omega)) (.done))))

theorem qrf {a : (List qS)} (h : qfO a ≤ 1048576) : Ev (fun n => qhH n a) a := by
  have hl : a.length ≤ 1048576 := by simp only [qfO] at h; omega
  unfold qhH
  exact Ev.bindN (qhJ (by omega)) (Ev.bind (b := (a, (a.length : Int))) (qib (cp := qg9) (fun x hx => qsm (by have := qcp (wt := fun x : qS => qfB x) hx; simp only [qfO] at h; omega))
    (fun acc n => by simp only [qed, qu (Nat.le_refl _), cond_false])
    (fun acc n j x y hx hy => by
      have hj := (List.getElem?_eq_some_iff.1 hx).1
      simp only [qed, qt hj, cond_true, qat hx, qat hy, Option.bind_some, qq (show j < 9223372036854775807 by omega)])) .done)

theorem qlg {a : qz} (h : qfJ a ≤ 1048576) : Ev (fun n => qe4 n a) a := by
  unfold qe4
  simp only [qfJ] at h
  exact Ev.bind (qpv (a := a.Library) (by omega)) (Ev.bind (qqy (a := a.Design) (by omega)) (Ev.bind (qrf (a := a.Wires) (by omega)) (.done)))

end Go.Fw


namespace Go.Fw
open Go
set_option maxRecDepth 100000


theorem qeK {n : Nat} {x lo hi : Int} : qaD n x lo hi = some (inI x lo hi) := by
  simp only [qaD, qj7, qll]; rfl
theorem qev {n : Nat} {x lo hi : Int} : qaX n x lo hi = some (inI x lo hi) := by
  simp only [qaX, qj7, qll]; rfl

/-! ### Names -/

/-- The byte at a place, as a number. -/
def bt (s : ByteArray) (j : Nat) : Nat := (s.data.toList.getD j 0).toNat
theorem qrF {s : ByteArray} {j : Nat} (h : j < s.size) : atS s (j : Int) = some (bt s j : Int) := by
  have h' : j < s.data.size := h
  have hl : j < s.data.toList.length := by simpa using h'
  unfold atS
  rw [if_pos (by omega), Int.toNat_natCast]
  have : s[j]? = some (s.data.toList.getD j 0) := by
    rw [getElem?_pos s j h, List.getD_eq_getElem?_getD, List.getElem?_eq_getElem hl]
    rfl
  rw [this]
  rfl

def letB (b : Nat) : Bool := decide (97 ≤ b) && decide (b ≤ 122)
def digB (b : Nat) : Bool := decide (48 ≤ b) && decide (b ≤ 57)
def chB (s : ByteArray) (j : Nat) : Bool := letB (bt s j) || digB (bt s j) && decide (0 < j)
def nameB (s : ByteArray) : Bool := (decide (1 ≤ s.size) && decide (s.size ≤ 8)) && allN (chB s) s.size

theorem qk0 {s : ByteArray} (h : okS s) : Ev (fun n => qfL n s) (nameB s) := by
  unfold okS at h
  have hL : Ev (fun n => qcL s n 0) (bif allN (chB s) s.size then .nxt (s.size : Int) else .ret false) := by
    refine qfg ?_ (fun j hj X hX => ?_)
    · exact Ev.succ (by simp only [qcL, qu (Nat.le_refl _), cond_false]; exact .done)
    · refine Ev.succ ?_
      simp only [qcL, qt hj, cond_true, qrF hj, Option.bind_some, qj7, qll, qq (show j < 9223372036854775807 by omega)]
      have e1 : (decide ((bt s j : Int) ≥ 97) && decide ((bt s j : Int) ≤ 122)) = letB (bt s j) := by unfold letB; rw [Bool.eq_iff_iff]; simp; omega
      have e2 : (decide ((bt s j : Int) ≥ 48) && decide ((bt s j : Int) ≤ 57)) = digB (bt s j) := by unfold digB; rw [Bool.eq_iff_iff]; simp; omega
      have e3 : decide ((j : Int) > 0) = decide (0 < j) := by rw [Bool.eq_iff_iff]; simp
      rw [e1, e2, e3]
      unfold chB
      cases letB (bt s j) <;> cases digB (bt s j) <;> cases decide (0 < j) <;> first | exact hX | exact .done
  unfold qfL
  refine Ev.cast (r := bif allN (chB s) s.size then (decide (1 ≤ s.size) && decide (s.size ≤ 8)) else false) (Ev.bindB hL (fun _ => ?_) (fun _ => .done)) ?_
  · simp only [qj7, qll]
    exact Ev.now (by congr 1; rw [Bool.eq_iff_iff]; simp; omega)
  · unfold nameB
    cases allN (chB s) s.size <;> simp

def cutset : List UInt8 := [97, 98, 99, 100, 101, 102, 103, 104, 105, 106, 107, 108, 109, 110, 111, 112, 113, 114, 115, 116, 117, 118, 119, 120, 121, 122, 48, 49, 50, 51, 52, 53, 54, 55, 56, 57]
theorem qmO (b : UInt8) : cutset.contains b = (letB b.toNat || digB b.toNat) := by
  have h0 : (List.range 256).all (fun m => cutset.contains (UInt8.ofNat m) == (letB (UInt8.ofNat m).toNat || digB (UInt8.ofNat m).toNat)) = true := by kernel_rfl
  have h := List.all_eq_true.1 h0 b.toNat (List.mem_range.2 b.toNat_lt)
  rw [beq_iff_eq] at h
  simpa using h
def letters : List UInt8 := [97, 98, 99, 100, 101, 102, 103, 104, 105, 106, 107, 108, 109, 110, 111, 112, 113, 114, 115, 116, 117, 118, 119, 120, 121, 122]
theorem qpJ (m : Nat) (hm : m < 256) : decide ((Lib.indexByte letters m.toUInt8) ≥ 0) = letB m := by
  have h0 : (List.range 256).all (fun m => decide ((Lib.indexByte letters m.toUInt8) ≥ 0) == letB m) = true := by kernel_rfl
  have h := List.all_eq_true.1 h0 m (List.mem_range.2 hm)
  rwa [beq_iff_eq] at h

theorem qnm {α : Type} {p : α → Bool} {l : List α} : l.dropWhile p = [] ↔ ∀ x, x ∈ l → p x = true := by
  induction l with
  | nil => simp
  | cons y l ih =>
    rw [List.dropWhile_cons]
    by_cases h : p y = true
    · rw [if_pos h, ih]; simp [h]
    · rw [if_neg h]; simp [h]

theorem qnu {α : Type} {p : α → Bool} {l : List α} (h : ∀ x, x ∈ l.dropWhile p → p x = true) : ∀ x, x ∈ l → p x = true := by
  induction l with
  | nil => simp
  | cons y l ih =>
    rw [List.dropWhile_cons] at h
    by_cases hy : p y = true
    · rw [if_pos hy] at h
      intro x hx
      rcases List.mem_cons.1 hx with rfl | hx
      · exact hy
      · exact ih h x hx
    · rw [if_neg hy] at h
      exact h

theorem qrV {l cs : List UInt8} : Lib.trimS l cs = [] ↔ ∀ x, x ∈ l → cs.contains x = true := by
  unfold Lib.trimS Lib.trimRightS Lib.trimLeftS
  rw [qnm]
  constructor
  · intro h x hx
    exact qnu (p := (cs.contains ·)) (l := l.reverse) (fun y hy => h y (List.mem_reverse.2 hy)) x (List.mem_reverse.2 hx)
  · intro h x hx
    exact h x (List.mem_reverse.1 ((List.dropWhile_suffix _).subset (List.mem_reverse.1 hx)))

theorem qgP {a b : ByteArray} : (a.toList == b.toList) = decide (a = b) := by
  rw [Bool.eq_iff_iff, beq_iff_eq, decide_eq_true_iff]
  constructor
  · intro h
    exact ByteArray.ext (by have := congrArg List.toArray h; simpa [ByteArray.toList_eq] using this)
  · rintro rfl; rfl
end Go.Fw


namespace Go.Fw
open Go
set_option maxRecDepth 100000

theorem qsD {s : ByteArray} {j : Nat} (h : j < s.data.toList.length) : bt s j = (s.data.toList[j]).toNat := by
  unfold bt; rw [List.getD_eq_getElem?_getD, List.getElem?_eq_getElem h]; rfl
theorem qsU {s : ByteArray} {j : Nat} : bt s j < 256 := UInt8.toNat_lt _

theorem qob {n : Nat} {s : ByteArray} (h : okS s) : qhh n s = some (nameB s) := by
  unfold okS at h
  have hl : s.data.toList.length = s.size := by simp
  simp only [qhh, qev, Option.bind_some]
  cases hI : inI (s.size : Int) 1 8 with
  | false =>
    have hs : (decide (1 ≤ s.size) && decide (s.size ≤ 8)) = false := by rw [qqE] at hI; rw [Bool.and_eq_false_iff, decide_eq_false_iff_not, decide_eq_false_iff_not]; omega
    simp [nameB, hs]
  | true =>
    have hs : 1 ≤ s.size ∧ s.size ≤ 8 := by rw [qdg] at hI; omega
    have hT : qht n s (⟨#[97, 98, 99, 100, 101, 102, 103, 104, 105, 106, 107, 108, 109, 110, 111, 112, 113, 114, 115, 116, 117, 118, 119, 120, 121, 122, 48, 49, 50, 51, 52, 53, 54, 55, 56, 57]⟩ : ByteArray) = some ⟨(Lib.trimS s.data.toList cutset).toArray⟩ := by
      unfold qht
      rw [if_pos ⟨by omega, by decide, by decide⟩]
      rfl
    rw [hT]
    simp only [cond_true, Option.bind_some]
    have hE : (((⟨(Lib.trimS s.data.toList cutset).toArray⟩ : ByteArray).toList == (⟨#[]⟩ : ByteArray).toList)) = allN (fun j => letB (bt s j) || digB (bt s j)) s.size := by
      rw [qgP, Bool.eq_iff_iff, decide_eq_true_iff, qaZ]
      have : ((⟨(Lib.trimS s.data.toList cutset).toArray⟩ : ByteArray) = ⟨#[]⟩) ↔ Lib.trimS s.data.toList cutset = [] := by
        constructor
        · intro he
          have := congrArg (fun x : ByteArray => x.data.toList) he
          simpa using this
        · intro he; rw [he]
      rw [this, qrV]
      constructor
      · intro hx j hj
        have hj' : j < s.data.toList.length := by omega
        have := hx _ (List.getElem_mem hj')
        rw [qmO, ← qsD hj'] at this
        exact this
      · intro hx x hm
        obtain ⟨j, hj, rfl⟩ := List.getElem_of_mem hm
        have := hx j (by omega)
        rw [qmO, ← qsD hj]
        exact this
    rw [hE]
    have h0 : atS s 0 = some (bt s 0 : Int) := qrF (j := 0) (by omega)
    have hI2 : decide (Lib.indexByte letters (bt s 0 : Int).toNat.toUInt8 ≥ 0) = letB (bt s 0) := by
      rw [Int.toNat_natCast]; exact qpJ _ qsU
    have hF : ∀ b : Bool, (bif b then (atS s 0).bind fun y1 => (qf8 n (⟨#[97, 98, 99, 100, 101, 102, 103, 104, 105, 106, 107, 108, 109, 110, 111, 112, 113, 114, 115, 116, 117, 118, 119, 120, 121, 122]⟩ : ByteArray) (⟨y1⟩ : IntK .u8)).bind fun r3 => some (decide (r3 ≥ 0)) else some false) = some (b && letB (bt s 0)) := by
      intro b
      cases b with
      | false => rfl
      | true =>
        rw [h0]
        simp only [cond_true, Option.bind_some, qf8, Bool.true_and]
        exact congrArg some hI2
    rw [hF]
    congr 1
    have hs' : (decide (1 ≤ s.size) && decide (s.size ≤ 8)) = true := by simp [hs]
    unfold nameB
    rw [hs', Bool.true_and, Bool.eq_iff_iff, Bool.and_eq_true, qaZ, qaZ]
    simp only [chB, Bool.or_eq_true, Bool.and_eq_true, decide_eq_true_eq]
    constructor
    · rintro ⟨h1, h2⟩ j hj
      rcases Nat.eq_zero_or_pos j with rfl | hp
      · exact .inl h2
      · exact (h1 j hj).imp id (fun h => ⟨h, hp⟩)
    · intro h1
      refine ⟨fun j hj => (h1 j hj).imp id (fun h => h.1), ?_⟩
      rcases h1 0 (by omega) with h2 | h2
      · exact h2
      · omega

/-! ### Lists of names -/

def strAt (xs : List ByteArray) (j : Nat) : ByteArray := xs.getD j ByteArray.empty
theorem qlA {xs : List ByteArray} {j : Nat} (h : j < xs.length) : strAt xs j = xs[j] := by simp [strAt, h]
theorem qmG {xs : List ByteArray} {j : Nat} (h : j < xs.length) : idx xs (j : Int) = some (strAt xs j) := by rw [qgH h, qlA h]
def neB (xs : List ByteArray) (j i : Nat) : Bool := !decide (strAt xs i = strAt xs j)
def namesB (xs : List ByteArray) : Bool := allN (fun j => nameB (strAt xs j) && allN (neB xs j) j) xs.length

theorem qke {xs : List ByteArray} (h : okL okS xs) : Ev (fun n => qff n xs) (namesB xs) := by
  have hl := h.len
  have hL2 : ∀ j, j < xs.length → Ev (fun n => qcS xs (j : Int) n 0) (bif allN (neB xs j) j then .nxt (j : Int) else .ret false) := by
    intro j hj
    refine qfg ?_ (fun i hi X hX => Ev.succ ?_)
    · exact Ev.succ (by simp only [qcS, qu (Nat.le_refl _), cond_false]; exact .done)
    · simp only [qcS, qt hi, cond_true, qmG (show i < xs.length by omega), qmG hj, Option.bind_some, qgP, qq (show i < 9223372036854775807 by omega)]
      unfold neB
      cases decide (strAt xs i = strAt xs j)
      · exact hX
      · exact .done
  have hL1 : Ev (fun n => qcR xs n 0) (bif namesB xs then .nxt (xs.length : Int) else .ret false) := by
    refine qfg ?_ (fun j hj X hX => Ev.succ ?_)
    · exact Ev.succ (by simp only [qcR, qu (Nat.le_refl _), cond_false]; exact .done)
    · simp only [qcR, qt hj, cond_true, qmG hj, Option.bind_some, qq (show j < 9223372036854775807 by omega)]
      refine Ev.bind (qk0 (by rw [qlA hj]; exact h.at hj)) ?_
      cases nameB (strAt xs j)
      · exact .done
      · refine Ev.ff rfl (Ev.bind (hL2 j hj) ?_)
        cases allN (neB xs j) j
        · exact .done
        · exact hX
  unfold qff
  refine Ev.bind hL1 ?_
  cases namesB xs <;> exact .done

theorem qpi {xs : List ByteArray} {v : ByteArray} (hl : xs.length ≤ 1048576) : Ev (fun n => qei n xs v) (ixL (fun x => decide (v = x)) xs) :=
  qe5 (fin := (xs.length : Int)) (Lf := qbp xs v) (pf := fun _ x => some (decide (v = x))) (fun _ _ => .done)
    (fun n => by simp only [qbp, qu (Nat.le_refl _), cond_false])
    (fun n j x hx => by
      have hj := (List.getElem?_eq_some_iff.1 hx).1
      simp only [qbp, qt hj, cond_true, qat hx, Option.bind_some, qgP, qq (show j < 9223372036854775807 by omega)])
    (fun n => by unfold qei; congr 1; funext o; cases o <;> rfl)

theorem qm3 {xs : List ByteArray} {v : ByteArray} (hl : xs.length ≤ 1048576) : Ev (fun n => qda n xs v) (xs.any fun x => decide (v = x)) := by
  unfold qda
  exact Ev.bind (qpi hl) (Ev.now (by rw [qiX]))

theorem qil {xs : List ByteArray} (h : okL okS xs) : Ev (fun n => qdJ n xs) (namesB xs) := by
  have hl := h.len
  have hL1 : Ev (fun n => qc1 xs n 0) (bif namesB xs then .nxt (xs.length : Int) else .ret false) := by
    refine qfg ?_ (fun j hj X hX => Ev.succ ?_)
    · exact Ev.succ (by simp only [qc1, qu (Nat.le_refl _), cond_false]; exact .done)
    · have hs : subS xs 0 (j : Int) = some (xs.take j) := by
        unfold subS
        rw [if_pos ⟨by omega, by omega, by omega⟩]
        simp
      simp only [qc1, qt hj, cond_true, qmG hj, Option.bind_some, hs, qob (show okS (strAt xs j) by rw [qlA hj]; exact h.at hj), qq (show j < 9223372036854775807 by omega)]
      cases nameB (strAt xs j)
      · exact .done
      · refine Ev.ff rfl (Ev.bind (qm3 (by simp; omega)) ?_)
        have : ((xs.take j).any fun x => decide (strAt xs j = x)) = !allN (neB xs j) j := by
          rw [qo6 (d := ByteArray.empty)]
          congr 1
          rw [List.length_take, Nat.min_eq_left (by omega)]
          refine qg2 (fun i hi => ?_)
          unfold neB strAt
          congr 1
          have : (xs.take j).getD i ByteArray.empty = xs.getD i ByteArray.empty := by simp [List.getD_eq_getElem?_getD, hi]
          rw [this]
          exact decide_eq_decide.2 eq_comm
        rw [this]
        cases allN (neB xs j) j
        · exact .done
        · exact hX
  unfold qdJ
  refine Ev.bind hL1 ?_
  cases namesB xs <;> exact .done
end Go.Fw


namespace Go.Fw
open Go
set_option maxRecDepth 100000

theorem qnF {n : Nat} {x lo hi : Int} : qfs n x lo hi = some (!inI x lo hi) := by simp only [qfs, qev, Option.bind_some]

theorem qe7 {xs : List Int} {lo hi : Int} (hl : xs.length ≤ 1048576) : Ev (fun n => qby n xs lo hi) (xs.all fun x => inI x lo hi) := by
  have h1 : Ev (fun n => qaP n xs lo hi) (ixL (fun x => !inI x lo hi) xs) :=
    qe5 (fin := (xs.length : Int)) (Lf := qT xs lo hi) (pf := fun _ x => some (!inI x lo hi)) (fun _ _ => .done)
      (fun n => by simp only [qT, qu (Nat.le_refl _), cond_false])
      (fun n j x hx => by
        have hj := (List.getElem?_eq_some_iff.1 hx).1
        simp only [qT, qt hj, cond_true, qat hx, Option.bind_some, qnF, qq (show j < 9223372036854775807 by omega)])
      (fun n => by unfold qaP; congr 1; funext o; cases o <;> rfl)
  unfold qby qa1
  refine Ev.bind (Ev.bind h1 (Ev.now rfl)) (Ev.now ?_)
  rw [qiX, qlm]

def stepB (xs : List Int) (j : Nat) : Bool := decide (j = 0) || decide (at0 xs (j - 1) < at0 xs j)
def incB (xs : List Int) : Bool := allN (stepB xs) xs.length

theorem qiy {xs : List Int} (hl : xs.length ≤ 1048576) : Ev (fun n => qdh n xs) (incB xs) := by
  have hL : Ev (fun n => qa4 xs n 1) (bif incB xs then .nxt (max 1 xs.length : Int) else .ret false) := by
    by_cases h0 : xs.length = 0
    · have hb : incB xs = true := by unfold incB; rw [h0]; rfl
      rw [hb]
      refine Ev.succ ?_
      have : decide ((1 : Int) < (xs.length : Int)) = false := by rw [h0]; decide
      simp only [qa4, this, cond_false]
      exact Ev.now (by rw [h0]; rfl)
    · have := qoD (Lf := qa4 xs) (len := xs.length) (i0 := 1) (f := stepB xs) (bad := false) (fin := .nxt (max 1 xs.length : Int)) (by omega)
        (Ev.succ (by
          simp only [qa4, qu (Nat.le_refl _), cond_false]
          exact Ev.now (by congr 2; omega)))
        (fun j h1 hj X hX => Ev.succ (by
          simp only [qa4, qt hj, cond_true, qq (show j < 9223372036854775807 by omega), show (j : Int) - 1 = ((j - 1 : Nat) : Int) by omega, qbt (show -9223372036854775808 ≤ ((j - 1 : Nat) : Int) by omega) (by omega), qbx (show j - 1 < xs.length by omega), qbx hj, Option.bind_some]
          unfold stepB
          by_cases hc : at0 xs (j - 1) < at0 xs j
          · have e1 : decide (at0 xs (j - 1) ≥ at0 xs j) = false := by simp; omega
            rw [e1]; simp only [hc, decide_true, Bool.or_true, cond_true, cond_false]; exact hX
          · have e1 : decide (at0 xs (j - 1) ≥ at0 xs j) = true := by simp; omega
            have e2 : decide (j = 0) = false := by simp; omega
            rw [e1, e2]; simp only [hc, decide_false, Bool.or_self, cond_true, cond_false]; exact .done))
      have e : allN (fun j => stepB xs (1 + j)) (xs.length - 1) = incB xs := by
        unfold incB
        rw [Bool.eq_iff_iff, qaZ, qaZ]
        constructor
        · intro h j hj
          cases j with
          | zero => rfl
          | succ j => have := h j (by omega); rwa [Nat.add_comm] at this
        · intro h j hj
          exact h (1 + j) (by omega)
      rw [e] at this
      exact this
  unfold qdh
  refine Ev.bind hL ?_
  cases incB xs <;> exact .done

def lenB {α : Type} (xs : List α) (lo hi : Nat) : Bool := decide (lo ≤ xs.length) && decide (xs.length ≤ hi)
theorem qmD {α : Type} {xs : List α} {lo hi : Nat} : inI (xs.length : Int) (lo : Int) (hi : Int) = lenB xs lo hi := by
  unfold inI lenB; rw [Bool.eq_iff_iff]; simp
def axisB (xs : List Int) : Bool := lenB xs 1 4 && ((xs.all fun x => inI x 0 100000) && incB xs)

theorem qnX {xs : List Int} (hl : xs.length ≤ 1048576) : Ev (fun n => qg8 n xs) (axisB xs) := by
  simp only [qg8, qaB, Option.bind_some, qev, show inI (xs.length : Int) 1 4 = lenB xs 1 4 from qmD (lo := 1) (hi := 4)]
  unfold axisB
  cases lenB xs 1 4
  · exact .done
  · refine Ev.tt rfl (Ev.bind (qe7 hl) ?_)
    cases (xs.all fun x => inI x 0 100000)
    · exact .done
    · exact Ev.tt rfl (Ev.bind (qiy hl) .done)

theorem qmU {xs : List Int} (hl : xs.length ≤ 1048576) : Ev (fun n => qgB n xs) (axisB xs) := by
  have hL : Ev (fun n => qcK xs n 0) (bif allN (fun j => inI (at0 xs j) 0 100000 && stepB xs j) xs.length then .nxt (xs.length : Int) else .ret false) := by
    refine qfg ?_ (fun j hj X hX => Ev.succ ?_)
    · exact Ev.succ (by simp only [qcK, qu (Nat.le_refl _), cond_false]; exact .done)
    · simp only [qcK, qt hj, cond_true, qbx hj, Option.bind_some, qeK, qq (show j < 9223372036854775807 by omega)]
      cases inI (at0 xs j) 0 100000
      · exact .done
      · simp only [Bool.not_true, cond_false, Bool.true_and]
        unfold stepB
        by_cases h0 : j = 0
        · subst h0
          exact Ev.ff (by decide) hX
        · simp only [show (j : Int) - 1 = ((j - 1 : Nat) : Int) by omega, qbt (show -9223372036854775808 ≤ ((j - 1 : Nat) : Int) by omega) (by omega), qbx (show j - 1 < xs.length by omega), Option.bind_some]
          have e2 : decide (j = 0) = false := by simp; omega
          have e3 : decide ((j : Int) > 0) = true := by simp; omega
          rw [e2, e3]
          simp only [cond_true, Bool.false_or]
          by_cases hc : at0 xs (j - 1) < at0 xs j
          · have e1 : decide (at0 xs (j - 1) ≥ at0 xs j) = false := by simp; omega
            rw [e1]; simp only [hc, decide_true, cond_true, cond_false]; exact hX
          · have e1 : decide (at0 xs (j - 1) ≥ at0 xs j) = true := by simp; omega
            rw [e1]; simp only [hc, decide_false, cond_true, cond_false]; exact .done
  have e : axisB xs = (allN (fun j => inI (at0 xs j) 0 100000 && stepB xs j) xs.length && lenB xs 1 4) := by
    unfold axisB incB
    rw [qiY, qgW (d := 0), Bool.and_comm]
    rfl
  rw [e]
  unfold qgB
  refine Ev.bind hL ?_
  cases allN (fun j => inI (at0 xs j) 0 100000 && stepB xs j) xs.length
  · exact .done
  · simp only [cond_true, qj7, qll, Bool.true_and]
    exact Ev.now (by congr 1; unfold lenB; rw [Bool.eq_iff_iff]; simp; omega)

def tableB (t : qF) : Bool := axisB t.Slews && (axisB t.Loads && (decide (t.Values.length = t.Slews.length * t.Loads.length) && (t.Values.all fun x => inI x (-1000000) 1000000)))

theorem qql {a b : Nat} (ha : a ≤ 1048576) (hb : b ≤ 1048576) : W64 ((a : Int) * (b : Int)) = ((a * b : Nat) : Int) := by
  have h : a * b ≤ 1048576 * 1048576 := Nat.mul_le_mul ha hb
  have e : (a : Int) * (b : Int) = ((a * b : Nat) : Int) := by simp
  rw [e]
  exact qbt (by omega) (by omega)

theorem qqb {t : qF} (h : qhr t) : Ev (fun n => qhP n t) (tableB t) := by
  unfold qhP tableB
  refine Ev.bind (qnX h.Slews.len) ?_
  cases axisB t.Slews
  · exact .done
  · refine Ev.tt rfl (Ev.bind (qnX h.Loads.len) ?_)
    cases axisB t.Loads
    · exact .done
    · rw [qql h.Slews.len h.Loads.len]
      have e : (((t.Values.length : Nat) : Int) == ((t.Slews.length * t.Loads.length : Nat) : Int)) = decide (t.Values.length = t.Slews.length * t.Loads.length) := by rw [Bool.eq_iff_iff]; simp; omega
      rw [e]
      cases decide (t.Values.length = t.Slews.length * t.Loads.length)
      · exact .done
      · exact Ev.tt rfl (Ev.tt rfl (Ev.bind (qe7 h.Values.len) .done))

theorem qo0 {t : qF} (h : qhr t) : Ev (fun n => qhA n t) (tableB t) := by
  have hl := h.Values.len
  have hL : Ev (fun n => qdu t n 0) (bif (t.Values.all fun x => inI x (-1000000) 1000000) then .nxt (t.Values.length : Int) else .ret false) :=
    qkj (fun n => by simp only [qdu, qu (Nat.le_refl _), cond_false]) (fun j hj X hX => by
      simp only [qdu, qt hj, cond_true, qgH hj, Option.bind_some, qeK, qq (show j < 9223372036854775807 by omega)]
      cases inI t.Values[j] (-1000000) 1000000
      · exact .done
      · exact hX)
  unfold qhA tableB
  refine Ev.bind (b := !(axisB t.Slews && (axisB t.Loads && decide (t.Values.length = t.Slews.length * t.Loads.length)))) ?_ ?_
  · refine Ev.bind (qmU h.Slews.len) ?_
    cases axisB t.Slews
    · exact .done
    · refine Ev.ff rfl (Ev.bind (qmU h.Loads.len) ?_)
      cases axisB t.Loads
      · exact .done
      · refine Ev.ff rfl (Ev.now ?_)
        rw [qql h.Slews.len h.Loads.len]
        congr 1
        rw [Bool.eq_iff_iff]; simp; omega
  · cases axisB t.Slews
    · exact .done
    · cases axisB t.Loads
      · exact .done
      · cases decide (t.Values.length = t.Slews.length * t.Loads.length)
        · exact .done
        · refine Ev.ff rfl (Ev.bind hL ?_)
          cases (t.Values.all fun x => inI x (-1000000) 1000000) <;> exact .done
end Go.Fw


namespace Go.Fw
open Go
set_option maxRecDepth 100000

instance : Inhabited qan := ⟨⟨ByteArray.empty, 0, 0, false⟩⟩
instance : Inhabited qF := ⟨⟨[], [], []⟩⟩
instance : Inhabited qV := ⟨⟨0, 0, 0, 0, [], []⟩⟩
instance : Inhabited qC := ⟨⟨ByteArray.empty, 0, [], [], [], 0, 0⟩⟩
instance : Inhabited qm := ⟨⟨ByteArray.empty, 0, []⟩⟩
instance : Inhabited qX := ⟨⟨ByteArray.empty, 0, 0⟩⟩
instance : Inhabited qS := ⟨⟨[], [], [], []⟩⟩

theorem lastE {j m : Nat} (h : j < m) (hm : m ≤ 1048576) : ((j : Int) == W64 ((m : Int) - 1)) = decide (j + 1 = m) := by
  rcases qr7 h with h | h
  · exact h
  · omega
theorem qiK {α : Type} [Inhabited α] {xs : List α} {g : α → ByteArray} {j : Nat} (h : j < xs.length) : strAt (xs.map g) j = g (gt xs j) := by
  rw [qlA (by simpa using h), qiS h]; simp
/-- Names that differ, by the list that they are taken from. -/
theorem qkw {α : Type} {xs : List α} {g : α → ByteArray} {ok : α → Prop} (h : okL ok xs) (hg : ∀ x, ok x → okS (g x)) : okL okS (xs.map g) :=
  ⟨by rw [List.length_map]; exact h.1, fun y hy => by
    obtain ⟨x, hx, rfl⟩ := List.mem_map.1 hy
    exact hg x (h.2 x hx)⟩
theorem qjC {α β : Type} {xs : List α} {g : α → β} {j : Nat} (h : j < xs.length) (hl : xs.length ≤ 1048576) {y : β} : appS ((xs.take j).map g) [y] = some ((xs.take j).map g ++ [y]) :=
  qen (by simp; omega)

/-! ### Pins -/

def pinB (ps : List qan) (j : Nat) : Bool :=
  bif decide (j + 1 = ps.length) then ((gt ps j).Dir == 2) && (((gt ps j).Cap == 0) && !(gt ps j).Clock) else ((gt ps j).Dir == 1) && inI (gt ps j).Cap 0 500
def pinsB (ps : List qan) : Bool := allN (pinB ps) ps.length && (lenB ps 2 5 && namesB (ps.map qan.Name))
def clkN (ps : List qan) (j : Nat) : Nat := cntP (fun i => (gt ps i).Clock) j

theorem qpT {ps : List qan} (h : okL qki ps) : Ev (fun n => qhB n ps) (pinsB ps) := by
  have hl := h.len
  have hL : Ev (fun n => qcf ps n ([] : List ByteArray) 0) (bif allN (pinB ps) ps.length then .nxt (ps.map qan.Name, (ps.length : Int)) else .ret false) := by
    refine loopN (Lf := qcf ps) (S := fun j => (ps.take j).map qan.Name) (pinB ps) (fun n => ?_) (fun j hj hp X hX => ?_)
    · simp only [qcf, qu (Nat.le_refl _), cond_false, List.take_length]
    · simp only [qcf, qt hj, cond_true, qas hj, Option.bind_some, qjC hj hl, qfN (g := qan.Name) hj, lastE hj hl, bne, qbz, qev, qq (show j < 9223372036854775807 by omega)]
      generalize hc : pinB ps j = c at hX ⊢
      unfold pinB at hc
      cases hd : decide (j + 1 = ps.length)
      · rw [hd] at hc
        simp only [cond_false] at hc ⊢
        subst hc
        exact Ev.okP (fun h1 => Ev.okP1 (fun h2 => hX (by rw [h1, h2]; rfl)))
      · rw [hd] at hc
        simp only [cond_true] at hc ⊢
        subst hc
        refine Ev.okP (fun h1 => Ev.okP (fun h2 => Ev.chkP1 (fun h3 => hX (by rw [h1, h2, h3]; rfl))))
  unfold qhB pinsB
  refine Ev.bind hL ?_
  cases allN (pinB ps) ps.length
  · exact .done
  · simp only [cond_true, qbE, qev, Option.bind_some, show inI (ps.length : Int) 2 5 = lenB ps 2 5 from qmD (lo := 2) (hi := 5), Bool.true_and]
    exact Ev.andP (fun _ => Ev.last (qil (qkw h (fun x hx => hx.Name))))

/-- A check of the reference, one pin. -/
def pinS (ps : List qan) (j : Nat) : Bool := allN (neB (ps.map qan.Name) j) j && ((nameB (gt ps j).Name && inI (gt ps j).Cap 0 500) && (bif decide (j + 1 = ps.length) then ((gt ps j).Dir == 2) && (((gt ps j).Cap == 0) && !(gt ps j).Clock) else ((gt ps j).Dir == 1)))

theorem qr6 {ps : List qan} : (lenB ps 2 5 && allN (pinS ps) ps.length) = pinsB ps := by
  have e : namesB (ps.map qan.Name) = allN (fun j => nameB (gt ps j).Name && allN (neB (ps.map qan.Name) j) j) ps.length := by
    unfold namesB
    rw [List.length_map]
    exact qg2 (fun j hj => by rw [qiK hj])
  unfold pinsB
  rw [e, ← Bool.and_assoc, Bool.and_comm (allN (pinB ps) ps.length), Bool.and_assoc, ← qiY]
  congr 1
  refine qg2 (fun j hj => ?_)
  unfold pinS pinB
  cases hd : decide (j + 1 = ps.length)
  · simp only [cond_false]
    cases allN (neB (ps.map qan.Name) j) j <;> cases nameB (gt ps j).Name <;> cases inI (gt ps j).Cap 0 500 <;> cases ((gt ps j).Dir == 1) <;> rfl
  · simp only [cond_true]
    cases hcap : ((gt ps j).Cap == 0)
    · simp
    · have : inI (gt ps j).Cap 0 500 = true := by rw [beq_iff_eq] at hcap; rw [hcap]; rfl
      rw [this]
      cases allN (neB (ps.map qan.Name) j) j <;> cases nameB (gt ps j).Name <;> cases ((gt ps j).Dir == 2) <;> cases (gt ps j).Clock <;> rfl

theorem qpu {c : qC} (h : okL qki c.Pins) : Ev (fun n => qhx n c) (bif pinsB c.Pins then (((clkN c.Pins c.Pins.length : Nat) : Int), true) else (0, false)) := by
  have hl := h.len
  have hL2 : ∀ j, j < c.Pins.length → Ev (fun n => qdw c (j : Int) (gt c.Pins j) n 0) (bif allN (neB (c.Pins.map qan.Name) j) j then .nxt (j : Int) else .ret (0, false)) := by
    intro j hj
    refine qfg ?_ (fun i hi X hX => Ev.succ ?_)
    · exact Ev.succ (by simp only [qdw, qu (Nat.le_refl _), cond_false]; exact .done)
    · simp only [qdw, qt hi, cond_true, qas (show i < c.Pins.length by omega), Option.bind_some, qgP, qq (show i < 9223372036854775807 by omega)]
      unfold neB
      rw [qiK (g := qan.Name) (show i < c.Pins.length by omega), qiK (g := qan.Name) hj]
      exact Ev.chkP1 (fun _ => hX)
  have hL1 : Ev (fun n => qcc c n 0 0) (bif allN (pinS c.Pins) c.Pins.length then .nxt (((clkN c.Pins c.Pins.length : Nat) : Int), (c.Pins.length : Int)) else .ret (0, false)) := by
    refine loopN (Lf := qcc c) (S := fun j => ((clkN c.Pins j : Nat) : Int)) (pinS c.Pins) (fun n => ?_) (fun j hj hp X hX => ?_)
    · simp only [qcc, qu (Nat.le_refl _), cond_false]
    · have hn : clkN c.Pins j ≤ j := qeY
      have ejl : ((j : Int) == W64 ((c.Pins.length : Int) - 1)) = decide (j + 1 = c.Pins.length) := lastE hj hl
      have elt : decide ((j : Int) < W64 ((c.Pins.length : Int) - 1)) = !decide (j + 1 = c.Pins.length) := by
        rw [qbt (by omega) (by omega), Bool.eq_iff_iff]; simp; omega
      simp only [qcc, qt hj, cond_true, qas hj, Option.bind_some, qq (show j < 9223372036854775807 by omega), qq (show clkN c.Pins j < 9223372036854775807 by omega), ejl, elt, qeK]
      unfold pinS
      refine Ev.bind (hL2 j hj) ?_
      cases ha : allN (neB (c.Pins.map qan.Name) j) j
      · exact .done
      · simp only [cond_true, Bool.true_and]
        refine Ev.chkT ?_ (fun h1 => ?_)
        · exact Ev.or (qk0 (qiB h hj).Name) (fun _ => .done)
        · refine Ev.chkT1 ?_ (fun h2 => ?_)
          · cases decide (j + 1 = c.Pins.length)
            · exact .done
            · simp only [cond_true, Bool.not_true, cond_false, bne, qbz]
              cases ((gt c.Pins j).Dir == 2) <;> cases ((gt c.Pins j).Cap == 0) <;> cases (gt c.Pins j).Clock <;> exact .done
          · have hX := hX (by unfold pinS; rw [ha, h1, h2]; rfl)
            have hck : clkN c.Pins (j + 1) = clkN c.Pins j + (bif (gt c.Pins j).Clock then 1 else 0) := rfl
            rw [hck] at hX
            cases hc : (gt c.Pins j).Clock
            · rw [hc] at hX; exact Ev.ff rfl hX
            · rw [hc] at hX; exact Ev.tt rfl hX
  rw [← qr6]
  unfold qhx
  refine Ev.guard ?_ (fun h1 => ?_)
  · unfold lenB
    have e1 : decide ((c.Pins.length : Int) < 2) = !decide (2 ≤ c.Pins.length) := by rw [Bool.eq_iff_iff]; simp; omega
    have e2 : decide ((c.Pins.length : Int) > 5) = !decide (c.Pins.length ≤ 5) := by rw [Bool.eq_iff_iff]; simp; omega
    rw [e1, e2]
    cases decide (2 ≤ c.Pins.length) <;> cases decide (c.Pins.length ≤ 5) <;> exact .done
  · refine Ev.bind hL1 ?_
    cases allN (pinS c.Pins) c.Pins.length <;> exact .done

/-! ### Lists of tables -/

def mnL (xs : List Int) : Int := (xs.drop 1).foldl (fun m y => if y < m then y else m) (at0 xs 0)
def mxL (xs : List Int) : Int := (xs.drop 1).foldl (fun m y => if y > m then y else m) (at0 xs 0)

theorem qm4 {t : qF} (h : tableB t = true) : 1 ≤ t.Values.length := by
  unfold tableB axisB lenB at h
  simp only [Bool.and_eq_true, decide_eq_true_eq] at h
  obtain ⟨⟨⟨h1, _⟩, _⟩, ⟨⟨h2, _⟩, _⟩, h3, _⟩ := h
  rw [h3]
  exact Nat.mul_pos h1 h2

theorem qsh {xs : List Int} (h1 : 1 ≤ xs.length) (hl : xs.length ≤ 1048576) : Ev (fun n => qfA n xs) (mnL xs) := by
  have hL := (qnY (Lf := fun n t j => qbS xs n t j) (xs := xs) (step := fun (m y : Int) => if y < m then y else m) (fin := fun t => (t, (xs.length : Int))) 1 (at0 xs 0) (fun _ _ => True) h1 trivial (fun _ _ _ _ => trivial)
    (fun n t => by simp only [qbS, qu (Nat.le_refl _), cond_false])
    (fun j t hj _ X hX => by simpa only [qbS, qt hj, cond_true, qgH hj, Option.bind_some, qq (show j < 9223372036854775807 by omega)] using hX)).1
  unfold qfA
  rw [show decide ((xs.length : Int) < 1) = false by simp; omega, show idx xs (0 : Int) = some (at0 xs 0) from qbx (j := 0) (by omega)]
  simp only [cond_false, Option.bind_some]
  exact Ev.bind hL .done

theorem qpQ {t : qF} (h : qhr t) : Ev (fun n => qft n t) (bif tableB t then (⟨mnL t.Values, mxL t.Values⟩, 0) else (⟨0, 0⟩, 1)) := by
  unfold qft
  refine Ev.chk1 (qo0 h) (fun hb => ?_)
  have h1 := qm4 hb
  have hl := h.Values.len
  have hL := (qnY (Lf := fun n (t' : Int × Int) j => qbU t n t'.1 t'.2 j) (xs := t.Values) (step := fun (m : Int × Int) y => (if y < m.1 then y else m.1, if y > m.2 then y else m.2)) (fin := fun t' => (t'.1, t'.2, (t.Values.length : Int))) 1 (at0 t.Values 0, at0 t.Values 0) (fun _ _ => True) h1 trivial (fun _ _ _ _ => trivial)
    (fun n t => by simp only [qbU, qu (Nat.le_refl _), cond_false])
    (fun j t hj _ X hX => by simpa only [qbU, qt hj, cond_true, qgH hj, Option.bind_some, qq (show j < 9223372036854775807 by omega)] using hX)).1
  have hf : ∀ (ys : List Int) (a b : Int), ys.foldl (fun (m : Int × Int) y => (if y < m.1 then y else m.1, if y > m.2 then y else m.2)) (a, b) = (ys.foldl (fun m y => if y < m then y else m) a, ys.foldl (fun m y => if y > m then y else m) b) := by
    intro ys
    induction ys with
    | nil => intro a b; rfl
    | cons y ys ih => intro a b; simp only [List.foldl_cons, ih]
  rw [hf] at hL
  rw [show idx t.Values (0 : Int) = some (at0 t.Values 0) from qbx (j := 0) (by omega)]
  simp only [Option.bind_some]
  exact Ev.bind hL .done

def tabB (pos : Bool) (t : qF) : Bool := tableB t && (!pos || decide (0 ≤ mnL t.Values))
def tablesB (ts : List qF) (pos : Bool) : Bool := decide (ts.length = 2) && ts.all (tabB pos)

theorem qjT {ts : List qF} {pos : Bool} (h : okL qhr ts) : Ev (fun n => qeL n ts pos) (tablesB ts pos) := by
  have hl := h.len
  have h1 : Ev (fun n => qav n ts pos) (ixL (fun x => !tabB pos x) ts) :=
    qe5 (fin := (ts.length : Int)) (Lf := qM ts pos) (pf := fun n x => qfu n x pos) (fun x hx => by
        unfold qfu tabB
        refine Ev.or (qqb (h.2 x hx)) (fun hb => ?_)
        cases pos
        · exact .done
        · refine Ev.tt rfl (Ev.bind (qsh (qm4 hb) (h.2 x hx).Values.len) (Ev.now ?_))
          congr 1
          rw [Bool.eq_iff_iff]; simp)
      (fun n => by simp only [qM, qu (Nat.le_refl _), cond_false])
      (fun n j x hx => by
        have hj := (List.getElem?_eq_some_iff.1 hx).1
        simp only [qM, qt hj, cond_true, qat hx, Option.bind_some, qq (show j < 9223372036854775807 by omega)])
      (fun n => by unfold qav; congr 1; funext o; cases o <;> rfl)
  unfold qeL qaO tablesB
  rw [show ((ts.length : Int) == 2) = decide (ts.length = 2) by rw [Bool.eq_iff_iff]; simp; omega]
  refine Ev.andP (fun _ => Ev.bind (Ev.bind h1 (Ev.now rfl)) (Ev.now ?_))
  rw [qiX, qlm]

theorem qhQ {ts : List qF} {pos : Bool} (h : okL qhr ts) : Ev (fun n => qdf n ts pos) (tablesB ts pos) := by
  unfold qdf tablesB
  rw [show ((ts.length : Int) != 2) = !decide (ts.length = 2) by rw [Bool.eq_iff_iff]; simp; omega]
  simp only [qbz]
  refine Ev.andP (fun h2 => ?_)
  have h2 : ts.length = 2 := by simpa using h2
  have hL : Ev (fun n => qb3 ts pos n 0) (bif allN (fun j => tabB pos (gt ts j)) ts.length then .nxt (2 : Int) else .ret false) := by
    refine qfg (len := ts.length) ?_ (fun j hj X hX => Ev.succ ?_)
    · rw [h2]; exact Ev.succ (by simp only [qb3]; exact .done)
    · simp only [qb3, show decide ((j : Int) < 2) = true by simp; omega, cond_true, qas hj, Option.bind_some, qq (show j < 9223372036854775807 by omega)]
      refine Ev.bind (qpQ (qiB h hj)) ?_
      unfold tabB
      cases tableB (gt ts j)
      · exact .done
      · simp only [cond_true, Bool.true_and]
        refine Ev.ff rfl ?_
        cases pos
        · exact hX
        · refine Ev.tt rfl ?_
          rw [show decide (mnL (gt ts j).Values < 0) = !decide (0 ≤ mnL (gt ts j).Values) by rw [Bool.eq_iff_iff]; simp]
          simp only [qbz]
          exact Ev.okP1 (fun _ => hX)
  rw [qia]
  refine Ev.bind hL ?_
  cases allN (fun j => tabB pos (gt ts j)) ts.length <;> exact .done
end Go.Fw


namespace Go.Fw
open Go
set_option maxRecDepth 100000

theorem qgq {α : Type} [Inhabited α] {xs : List α} {x : Int} (h0 : 0 ≤ x) (h1 : x < xs.length) : idx xs x = some (gt xs x.toNat) := by
  have := qas (xs := xs) (j := x.toNat) (by omega)
  rwa [← qkW h0] at this
theorem qn9 {q : Nat → Bool} {m n : Nat} (h : m ≤ n) : cntP q m ≤ cntP q n := by
  induction n with
  | zero => obtain rfl : m = 0 := by omega
            exact Nat.le_refl _
  | succ n ih =>
    rcases Nat.lt_or_eq_of_le h with h | rfl
    · exact Nat.le_trans (ih (by omega)) (Nat.le_add_right _ _)
    · exact Nat.le_refl _
theorem qjJ {m k : Nat} : decide ((m : Int) ≤ (k : Int)) = decide (m ≤ k) := by rw [Bool.eq_iff_iff]; simp
theorem qpb {q : Nat → Bool} {n i j : Nat} (hi : i < j) (hj : j < n) (h1 : q i = true) (h2 : q j = true) : 2 ≤ cntP q n := by
  have e1 : cntP q (i + 1) = cntP q i + 1 := by rw [cntP, h1]; rfl
  have e2 : cntP q (j + 1) = cntP q j + 1 := by rw [cntP, h2]; rfl
  have m1 := qn9 (q := q) (show i + 1 ≤ j by omega)
  have m2 := qn9 (q := q) (show j + 1 ≤ n by omega)
  omega
theorem qpa {q : Nat → Bool} {n i j : Nat} (hn : cntP q n ≤ 1) (hi : i < n) (hj : j < n) (h1 : q i = true) (h2 : q j = true) : i = j := by
  rcases Nat.lt_trichotomy i j with h | h | h
  · have := qpb h hj h1 h2; omega
  · exact h
  · have := qpb h hi h2 h1; omega

/-! ### Arcs -/

def clkIx (ps : List qan) : Int := ixL (fun p => p.Clock) ps
def clkAt (ps : List qan) (x : Int) : Bool := (gt ps x.toNat).Clock

theorem qrU {c : qC} (hl : c.Pins.length ≤ 1048576) : Ev (fun n => qfX n c) (clkIx c.Pins) := by
  unfold qfX
  refine Ev.bind (b := clkIx c.Pins) ?_ .done
  exact qe5 (fin := (c.Pins.length : Int)) (Lf := qO c.Pins) (pf := fun n x => qf9 n x) (fun _ _ => .done)
    (fun n => by simp only [qO, qu (Nat.le_refl _), cond_false])
    (fun n j x hx => by
      have hj := (List.getElem?_eq_some_iff.1 hx).1
      simp only [qO, qt hj, cond_true, qat hx, Option.bind_some, qq (show j < 9223372036854775807 by omega)])
    (fun n => by unfold qaY; congr 1; funext o; cases o <;> rfl)

def arcI (ps : List qan) (a : qV) : Bool :=
  bif (a.Kind == 4) || (a.Kind == 5) then
    (a.Sense == 0) && (((a.Slew.length : Int) == 0) && (tablesB a.Delay false && ((a.From == clkIx ps) && (decide (a.From ≥ 0) && (inI a.To 0 (ps.length - 2) && !(a.To == a.From))))))
  else
    (tablesB a.Delay true && (tablesB a.Slew true && ((a.To == (ps.length : Int) - 1) && inI a.From 0 (ps.length - 2)))) &&
      (bif a.Kind == 1 then !clkAt ps a.From && inI a.Sense 1 3 else (bif (a.Kind == 2) || (a.Kind == 3) then clkAt ps a.From && (a.Sense == 0) else false))

def arcS (ps : List qan) (a : qV) : Bool :=
  (inI a.From 0 (ps.length - 2) && inI a.To 0 (ps.length - 1)) &&
    (bif a.Kind == 1 then !clkAt ps a.From && ((a.To == (ps.length : Int) - 1) && (inI a.Sense 1 3 && (tablesB a.Delay true && tablesB a.Slew true)))
     else (bif (a.Kind == 2) || (a.Kind == 3) then clkAt ps a.From && ((a.To == (ps.length : Int) - 1) && ((a.Sense == 0) && (tablesB a.Delay true && tablesB a.Slew true)))
     else (bif (a.Kind == 4) || (a.Kind == 5) then clkAt ps a.From && (decide (a.To < (ps.length : Int) - 1) && (!clkAt ps a.To && ((a.Sense == 0) && (tablesB a.Delay false && ((a.Slew.length : Int) == 0))))) else false)))

theorem ql7 {c d : Bool} : (bif c then some c else some d) = some (c || d) := by cases c <;> rfl
theorem qps {c d : Bool} : (bif c then some true else some d) = some (c || d) := by cases c <;> rfl

theorem qpV {n : Nat} {k : Int} : qhz n k = some ((k == 4) || (k == 5)) := by simp only [qhz, qps]
theorem qrv {c : qC} {a : qV} (h : okL qki c.Pins) (ha : qk9 a) (hm : 2 ≤ c.Pins.length) : Ev (fun n => qfU n c a) (arcI c.Pins a) := by
  have hl := h.len
  have e1 : W64 ((c.Pins.length : Int) - 1) = (c.Pins.length : Int) - 1 := qco (by omega)
  have e2 : W64 ((c.Pins.length : Int) - 1 - 1) = (c.Pins.length : Int) - 2 := by rw [qbt (by omega) (by omega)]; omega
  simp only [qfU, qpV, Option.bind_some, qeX, qck, qbE, e1, e2, qev, ql7, bne]
  unfold arcI
  refine Ev.iff (fun _ => Ev.last ?_) (fun _ => Ev.guardB ?_ (fun hb => ?_))
  · exact Ev.andP fun _ => Ev.andP fun _ => Ev.and (qjT ha.Delay) fun _ => Ev.bind (qrU hl) (Ev.andP fun _ => Ev.andP fun _ => Ev.andP fun _ => .done)
  · refine Ev.or (qjT ha.Delay) fun _ => Ev.or (qjT ha.Slew) fun _ => ?_
    simp only [qbz]
    exact Ev.orBP fun _ => .done
  · have hf : 0 ≤ a.From ∧ a.From ≤ (c.Pins.length : Int) - 2 := by
      simp only [Bool.and_eq_true, qdg] at hb
      exact hb.2.2.2
    simp only [qgq hf.1 (show a.From < (c.Pins.length : Int) by omega), Option.bind_some]
    exact Ev.iff (fun _ => Ev.andP fun _ => .done) (fun _ => Ev.iff (fun _ => Ev.andP fun _ => .done) (fun _ => .done))

theorem qq8 {c : qC} {a : qV} (h : okL qki c.Pins) (ha : qk9 a) (hm : 2 ≤ c.Pins.length) : Ev (fun n => qit n c a) (arcS c.Pins a) := by
  have hl := h.len
  have e1 : W64 ((c.Pins.length : Int) - 1) = (c.Pins.length : Int) - 1 := qco (by omega)
  have e2 : W64 ((c.Pins.length : Int) - 1 - 1) = (c.Pins.length : Int) - 2 := by rw [qbt (by omega) (by omega)]; omega
  simp only [qit, Option.bind_some, e1, e2, qeK, ql7]
  unfold arcS
  refine Ev.guardB ?_ (fun hb => ?_)
  · simp only [qbz]
    exact Ev.orBP fun _ => .done
  · have hf : (0 ≤ a.From ∧ a.From ≤ (c.Pins.length : Int) - 2) ∧ (0 ≤ a.To ∧ a.To ≤ (c.Pins.length : Int) - 1) := by
      simp only [Bool.and_eq_true, qdg] at hb
      exact hb
    simp only [qgq hf.1.1 (show a.From < (c.Pins.length : Int) by omega), qgq hf.2.1 (show a.To < (c.Pins.length : Int) by omega), Option.bind_some]
    refine Ev.iff (fun _ => ?_) (fun _ => Ev.iff (fun _ => ?_) (fun _ => Ev.iff (fun _ => ?_) (fun _ => .done)))
    · exact Ev.andP fun _ => Ev.andP fun _ => Ev.andP fun _ => Ev.and (qhQ ha.Delay) fun _ => Ev.last (qhQ ha.Slew)
    · exact Ev.andP fun _ => Ev.andP fun _ => Ev.andP fun _ => Ev.and (qhQ ha.Delay) fun _ => Ev.last (qhQ ha.Slew)
    · exact Ev.andP fun _ => Ev.andP fun _ => Ev.andP fun _ => Ev.andP fun _ => Ev.and (qhQ ha.Delay) fun _ => .done

/-- The place of the clock, where there is one at most. -/
theorem qlI {ps : List qan} (h1 : clkN ps ps.length ≤ 1) {x : Int} (hx : 0 ≤ x) : clkIx ps = x ↔ x < ps.length ∧ clkAt ps x = true := by
  unfold clkIx ixL
  cases hf : ps.findIdx? (fun p => p.Clock) with
  | some j =>
    obtain ⟨hj, hp, _⟩ := List.findIdx?_eq_some_iff_getElem.1 hf
    have hpj : (gt ps j).Clock = true := by rw [qiS hj]; exact hp
    constructor
    · intro e
      have e : (j : Int) = x := e
      subst e
      exact ⟨by omega, by unfold clkAt; rw [Int.toNat_natCast]; exact hpj⟩
    · rintro ⟨hl, hc⟩
      have := qpa h1 hj (show x.toNat < ps.length by omega) hpj hc
      show (j : Int) = x
      omega
  | none =>
    have hn := List.findIdx?_eq_none_iff.1 hf
    constructor
    · intro e
      have e : (-1 : Int) = x := e
      omega
    · rintro ⟨hl, hc⟩
      have hxl : x.toNat < ps.length := by omega
      unfold clkAt at hc
      rw [qiS hxl] at hc
      have := hn _ (List.getElem_mem hxl)
      rw [hc] at this
      exact absurd this (by decide)

theorem qiT {ps : List qan} (h : pinsB ps = true) : (2 ≤ ps.length ∧ ps.length ≤ 5) ∧ clkAt ps ((ps.length : Int) - 1) = false := by
  unfold pinsB lenB at h
  simp only [Bool.and_eq_true, decide_eq_true_eq] at h
  refine ⟨h.2.1, ?_⟩
  have h1 := qaZ.1 h.1 (ps.length - 1) (by omega)
  unfold pinB at h1
  rw [show decide (ps.length - 1 + 1 = ps.length) = true by simp; omega] at h1
  simp only [cond_true, Bool.and_eq_true, Bool.not_eq_true'] at h1
  unfold clkAt
  rw [show ((ps.length : Int) - 1).toNat = ps.length - 1 by omega]
  exact h1.2.2

theorem qrG {ps : List qan} {a : qV} (h : pinsB ps = true) (h1 : clkN ps ps.length ≤ 1) : arcI ps a = arcS ps a := by
  obtain ⟨⟨hm, hm5⟩, hlast⟩ := qiT h
  rw [Bool.eq_iff_iff]
  unfold arcI arcS
  cases h45 : ((a.Kind == 4) || (a.Kind == 5)) with
  | true =>
    have k1 : (a.Kind == 1) = false := by simp at h45 ⊢; omega
    have k23 : ((a.Kind == 2) || (a.Kind == 3)) = false := by simp at h45 ⊢; omega
    rw [k1, k23]
    simp only [cond_true, cond_false, Bool.and_eq_true, qdg, decide_eq_true_eq, beq_iff_eq, Bool.not_eq_true', beq_eq_false_iff_ne, ne_eq]
    constructor
    · rintro ⟨hs, hsl, hd, hf, hf0, ht, hne⟩
      obtain ⟨hl, hc⟩ := (qlI h1 hf0).1 hf.symm
      have hfl : a.From ≠ (ps.length : Int) - 1 := by intro e; rw [e, hlast] at hc; cases hc
      refine ⟨⟨⟨hf0, by omega⟩, ⟨ht.1, by omega⟩⟩, hc, by omega, ?_, hs, hd, hsl⟩
      cases hct : clkAt ps a.To with
      | false => rfl
      | true =>
        have := (qlI h1 ht.1).2 ⟨by omega, hct⟩
        omega
    · rintro ⟨⟨hf, ht⟩, hc, hlt, hct, hs, hd, hsl⟩
      have := (qlI h1 hf.1).2 ⟨by omega, hc⟩
      refine ⟨hs, hsl, hd, this.symm, hf.1, ⟨ht.1, by omega⟩, ?_⟩
      intro e
      rw [e, hc] at hct
      cases hct
  | false =>
    simp only [cond_false, Bool.and_eq_true, qdg, beq_iff_eq]
    cases (a.Kind == 1)
    · cases ((a.Kind == 2) || (a.Kind == 3))
      · simp
      · simp only [cond_true, cond_false, Bool.and_eq_true, beq_iff_eq]
        constructor
        · rintro ⟨⟨h1, h2, h3, h4⟩, h5, h6⟩
          exact ⟨⟨h4, by omega⟩, h5, h3, h6, h1, h2⟩
        · rintro ⟨⟨h4, h7⟩, h5, h3, h6, h1, h2⟩
          exact ⟨⟨h1, h2, h3, h4⟩, h5, h6⟩
    · simp only [cond_true, Bool.and_eq_true, qdg, Bool.not_eq_true', beq_iff_eq]
      constructor
      · rintro ⟨⟨h1, h2, h3, h4⟩, h5, h6⟩
        exact ⟨⟨h4, by omega⟩, h5, h3, h6, h1, h2⟩
      · rintro ⟨⟨h4, h7⟩, h5, h3, h6, h1, h2⟩
        exact ⟨⟨h1, h2, h3, h4⟩, h5, h6⟩

theorem qn5 {ps : List qan} {a : qV} (h : arcS ps a = true) : 1 ≤ a.Kind ∧ a.Kind ≤ 5 := by
  unfold arcS at h
  rw [Bool.and_eq_true] at h
  have h := h.2
  cases h1 : (a.Kind == 1)
  · cases h2 : ((a.Kind == 2) || (a.Kind == 3))
    · cases h4 : ((a.Kind == 4) || (a.Kind == 5))
      · rw [h1, h2, h4] at h; cases h
      · simp at h4; omega
    · simp at h2; omega
  · simp at h1; omega

def sameArc (x y : qV) : Bool := (x.Kind == y.Kind) && ((x.From == y.From) && (x.To == y.To))
def newArc (ar : List qV) (j : Nat) : Bool := allN (fun i => !sameArc (gt ar i) (gt ar j)) j

theorem qpx {c : qC} (h : okL qki c.Pins) (ha : okL qk9 c.Arcs) (hm : 2 ≤ c.Pins.length) : Ev (fun n => qe6 n c) (allN (fun j => arcI c.Pins (gt c.Arcs j) && newArc c.Arcs j) c.Arcs.length && decide (c.Arcs.length ≤ 8)) := by
  have hl := ha.len
  have h1 : ∀ (ar : List qV) (y : qV), ar.length ≤ 1048576 → Ev (fun n => qak n ar y) (ar.any fun x => sameArc x y) := by
    intro ar y hl
    unfold qak
    refine Ev.bind (b := ixL (fun x => sameArc x y) ar) (qe5 (fin := (ar.length : Int)) (Lf := qL ar y) (pf := fun n x => qeh n x y) (fun x _ => ?_)
      (fun n => by simp only [qL, qu (Nat.le_refl _), cond_false])
      (fun n j x hx => by
        have hj := (List.getElem?_eq_some_iff.1 hx).1
        simp only [qL, qt hj, cond_true, qat hx, Option.bind_some, qq (show j < 9223372036854775807 by omega)])
      (fun n => by unfold qaR; congr 1; funext o; cases o <;> rfl)) (Ev.now (by rw [qiX]))
    unfold qeh sameArc
    exact Ev.andP fun _ => Ev.andP fun _ => .done
  have hL : Ev (fun n => qbC c n 0) (bif allN (fun j => arcI c.Pins (gt c.Arcs j) && newArc c.Arcs j) c.Arcs.length then .nxt (c.Arcs.length : Int) else .ret false) := by
    refine qfg ?_ (fun j hj X hX => Ev.succ ?_)
    · exact Ev.succ (by simp only [qbC, qu (Nat.le_refl _), cond_false]; exact .done)
    · simp only [qbC, qt hj, cond_true, qas hj, Option.bind_some, qq4 (Nat.le_of_lt hj), qq (show j < 9223372036854775807 by omega)]
      refine Ev.chk (qrv h (qiB ha hj) hm) fun _ => Ev.chkT1 ?_ (fun _ => hX)
      refine (h1 _ _ (by simp; omega)).cast ?_
      rw [qrS (Nat.le_of_lt hj)]; rfl
  unfold qe6
  refine Ev.bind hL ?_
  cases allN (fun j => arcI c.Pins (gt c.Arcs j) && newArc c.Arcs j) c.Arcs.length
  · exact .done
  · refine Ev.now ?_
    show some (decide ((c.Arcs.length : Int) ≤ ((8 : Nat) : Int))) = some (true && decide (c.Arcs.length ≤ 8))
    rw [qjJ, Bool.true_and]

def hasB (ar : List qV) (k : Int) : Bool := ar.any fun a => a.Kind == k
theorem qlW {c : qC} {k : Int} (hl : c.Arcs.length ≤ 1048576) : Ev (fun n => qc5 n c k) (hasB c.Arcs k) := by
  unfold qc5 qaS
  exact Ev.last (Ev.bind (b := ixL (fun x => x.Kind == k) c.Arcs) (qe5 (fin := (c.Arcs.length : Int)) (Lf := qQ c.Arcs k) (pf := fun n x => qgY n x k) (fun x _ => .done)
      (fun n => by simp only [qQ, qu (Nat.le_refl _), cond_false])
      (fun n j x hx => by
        have hj := (List.getElem?_eq_some_iff.1 hx).1
        simp only [qQ, qt hj, cond_true, qat hx, Option.bind_some, qq (show j < 9223372036854775807 by omega)])
      (fun n => by unfold qa7; congr 1; funext o; cases o <;> rfl)) (Ev.now (by rw [qiX]; rfl)))

def kindN (ar : List qV) (k : Nat) (j : Nat) : Nat := cntP (fun i => (gt ar i).Kind == (k : Int)) j
theorem qnW {ar : List qV} {k : Nat} : decide (((kindN ar k ar.length : Nat) : Int) > 0) = hasB ar k := by
  rw [show decide (((kindN ar k ar.length : Nat) : Int) > 0) = decide (0 < kindN ar k ar.length) by simp]
  unfold kindN hasB
  rw [qph, qrm]
theorem qpK {ar : List qV} {k : Nat} : (((kindN ar k ar.length : Nat) : Int) == 0) = !hasB ar k := by
  rw [← qnW, Bool.eq_iff_iff]; simp

theorem qpc {c : qC} (ha : okL qk9 c.Arcs) (hk : ∀ j, j < c.Arcs.length → 1 ≤ (gt c.Arcs j).Kind ∧ (gt c.Arcs j).Kind ≤ 5) : Ev (fun n => qgO n c) (vecC (fun k => kindN c.Arcs k c.Arcs.length) 6) := by
  have hl := ha.len
  have hL : Ev (fun n => qcm c n (vecC (fun _ => 0) 6) 0) (vecC (fun k => kindN c.Arcs k c.Arcs.length) 6, (c.Arcs.length : Int)) := by
    refine loopF (Lf := qcm c) (S := fun j => vecC (fun k => kindN c.Arcs k j) 6) (len := c.Arcs.length) (fun n => ?_) (fun j hj X hX => ?_)
    · simp only [qcm, qu (Nat.le_refl _), cond_false]
    · obtain ⟨k1, k5⟩ := hk j hj
      have ek : (gt c.Arcs j).Kind = (((gt c.Arcs j).Kind.toNat : Nat) : Int) := qkW (by omega)
      have hc : kindN c.Arcs (gt c.Arcs j).Kind.toNat j ≤ j := qeY
      simp only [qcm, qt hj, cond_true, qas hj, Option.bind_some, qq (show j < 9223372036854775807 by omega)]
      rw [ek, qiO (show (gt c.Arcs j).Kind.toNat < 6 by omega)]
      simp only [Option.bind_some]
      rw [qoe (c := fun k => kindN c.Arcs k j) (by show kindN c.Arcs _ j < _; omega)]
      have : vecC (fun i => kindN c.Arcs i j + (bif decide ((gt c.Arcs j).Kind.toNat = i) then 1 else 0)) 6 = vecC (fun k => kindN c.Arcs k (j + 1)) 6 := by
        refine qiN (fun k _ => ?_)
        show _ = kindN c.Arcs k j + (bif (gt c.Arcs j).Kind == (k : Int) then 1 else 0)
        congr 2
        rw [Bool.eq_iff_iff]; simp; omega
      rw [this]
      exact hX
  unfold qgO
  rw [show mkS 6 (0 : Int) = some (vecC (fun _ => 0) 6) from qkB (m := 6) (by omega)]
  simp only [Option.bind_some]
  exact Ev.bind hL .done

/-! ### Cells -/

def kindB (c : qC) : Bool :=
  bif c.Kind == 1 then (((clkN c.Pins c.Pins.length : Nat) : Int) == 0) && (((c.Truth.length : Int) == ((2 ^ (c.Pins.length - 1) : Nat) : Int)) && (c.Truth.all fun x => inI x 0 1))
  else bif c.Kind == 2 then (((clkN c.Pins c.Pins.length : Nat) : Int) == 1) && (((c.Truth.length : Int) == 0) && (!hasB c.Arcs 1 && !(hasB c.Arcs 2 == hasB c.Arcs 3)))
  else bif c.Kind == 3 then (((clkN c.Pins c.Pins.length : Nat) : Int) == 1) && (((c.Truth.length : Int) == 0) && (hasB c.Arcs 1 && (hasB c.Arcs 2 && !hasB c.Arcs 3)))
  else false

theorem qoa {c : qC} (h : kindB c = true) : clkN c.Pins c.Pins.length ≤ 1 := by
  unfold kindB at h
  cases h1 : (c.Kind == 1)
  · cases h2 : (c.Kind == 2)
    · cases h3 : (c.Kind == 3)
      · rw [h1, h2, h3] at h; cases h
      · rw [h1, h2, h3] at h
        simp only [cond_true, cond_false, Bool.and_eq_true, beq_iff_eq] at h
        omega
    · rw [h1, h2] at h
      simp only [cond_true, cond_false, Bool.and_eq_true, beq_iff_eq] at h
      omega
  · rw [h1] at h
    simp only [cond_true, Bool.and_eq_true, beq_iff_eq] at h
    omega

theorem qoO {m : Nat} (h1 : 2 ≤ m) (h2 : m ≤ 5) : shlS 1 (W64 ((m : Int) - 1)) = some ((2 ^ (m - 1) : Nat) : Int) ∧ shlS 1 (IntKind.wrap .u64 (W64 ((m : Int) - 1))) = some ((2 ^ (m - 1) : Nat) : Int) := by
  have : m = 2 ∨ m = 3 ∨ m = 4 ∨ m = 5 := by omega
  rcases this with rfl | rfl | rfl | rfl <;> exact ⟨by decide, by decide⟩

theorem qo3 {c : qC} (hc : qkx c) (hm : 2 ≤ c.Pins.length) (hm5 : c.Pins.length ≤ 5) : Ev (fun n => qeB n c) (kindB c) := by
  have hl := hc.Pins.len
  have hL : Ev (fun n => qaV c n 0 0) (((clkN c.Pins c.Pins.length : Nat) : Int), (c.Pins.length : Int)) := by
    refine loopF (Lf := qaV c) (S := fun j => ((clkN c.Pins j : Nat) : Int)) (len := c.Pins.length) (fun n => ?_) (fun j hj X hX => ?_)
    · simp only [qaV, qu (Nat.le_refl _), cond_false]
    · have hn : clkN c.Pins j ≤ j := qeY
      simp only [qaV, qt hj, cond_true, qas hj, Option.bind_some, qq (show j < 9223372036854775807 by omega), qq (show clkN c.Pins j < 9223372036854775807 by omega)]
      have hck : clkN c.Pins (j + 1) = clkN c.Pins j + (bif (gt c.Pins j).Clock then 1 else 0) := rfl
      rw [hck] at hX
      cases hc : (gt c.Pins j).Clock
      · rw [hc] at hX; exact Ev.ff rfl hX
      · rw [hc] at hX; exact Ev.tt rfl hX
  unfold qeB kindB
  refine Ev.bind hL ?_
  simp only [qck, qbE, Option.bind_some, (qoO hm hm5).1]
  have hal := hc.Arcs.len
  refine Ev.iff (fun _ => ?_) (fun _ => Ev.iff (fun _ => ?_) (fun _ => Ev.iff (fun _ => ?_) (fun _ => .done)))
  · exact Ev.andP fun _ => Ev.andP fun _ => Ev.last (qe7 hc.Truth.len)
  · exact Ev.andP fun _ => Ev.andP fun _ => Ev.bind (qlW hal) (Ev.andP fun _ => Ev.bind (qlW hal) (Ev.bind (qlW hal) .done))
  · exact Ev.andP fun _ => Ev.andP fun _ => Ev.and (qlW hal) fun _ => Ev.and (qlW hal) fun _ => Ev.bind (qlW hal) .done

def cellB (c : qC) : Bool :=
  nameB c.Name && (pinsB c.Pins && ((allN (fun j => arcI c.Pins (gt c.Arcs j) && newArc c.Arcs j) c.Arcs.length && decide (c.Arcs.length ≤ 8)) && (inI c.Leak 0 100000 && (inI c.Energy 0 100000 && kindB c))))

theorem qqI {c : qC} (hc : qkx c) : Ev (fun n => qiq n c) (cellB c) := by
  simp only [qiq, qob hc.Name, qev, Option.bind_some]
  unfold cellB
  refine Ev.andP fun _ => Ev.and (qpT hc.Pins) fun hp => ?_
  obtain ⟨⟨hm, hm5⟩, _⟩ := qiT hp
  exact Ev.and (qpx hc.Pins hc.Arcs hm) fun _ => Ev.andP fun _ => Ev.andP fun _ => Ev.last (qo3 hc hm hm5)

theorem qpB {c : qC} (hc : qkx c) : Ev (fun n => qim n c) (cellB c) := by
  have hal := hc.Arcs.len
  have htl := hc.Truth.len
  have e : cellB c = ((pinsB c.Pins && (nameB c.Name && (decide (c.Arcs.length ≤ 8) && (inI c.Leak 0 100000 && inI c.Energy 0 100000)))) && (allN (fun j => arcS c.Pins (gt c.Arcs j) && newArc c.Arcs j) c.Arcs.length && kindB c)) := by
    unfold cellB
    cases hk : kindB c
    · simp
    · cases hp : pinsB c.Pins
      · simp
      · rw [qg2 (fun j _ => by rw [qrG hp (qoa hk)])]
        cases nameB c.Name <;> cases allN (fun j => arcS c.Pins (gt c.Arcs j) && newArc c.Arcs j) c.Arcs.length <;> cases decide (c.Arcs.length ≤ 8) <;> cases inI c.Leak 0 100000 <;> cases inI c.Energy 0 100000 <;> rfl
  rw [e]
  unfold qim
  refine Ev.bind (qpu hc.Pins) ?_
  cases hp : pinsB c.Pins
  · exact .done
  · obtain ⟨⟨hm, hm5⟩, _⟩ := qiT hp
    simp only [cond_true, Bool.true_and, Bool.not_true, cond_false]
    refine Ev.guardB ?_ (fun _ => ?_)
    · simp only [qeK, Option.bind_some, qbz]
      refine Ev.orB (qk0 hc.Name) fun _ => ?_
      rw [show decide ((c.Arcs.length : Int) > 8) = !decide (c.Arcs.length ≤ 8) by rw [Bool.eq_iff_iff]; simp; omega, qbz]
      exact Ev.orBP fun _ => Ev.orBP fun _ => .done
    · have hL2 : ∀ j, j < c.Arcs.length → Ev (fun n => qcG c (j : Int) (gt c.Arcs j) n 0) (bif newArc c.Arcs j then .nxt (j : Int) else .ret false) := by
        intro j hj
        refine qfg ?_ (fun i hi X hX => Ev.succ ?_)
        · exact Ev.succ (by simp only [qcG, qu (Nat.le_refl _), cond_false]; exact .done)
        · simp only [qcG, qt hi, cond_true, qas (show i < c.Arcs.length by omega), Option.bind_some, qq (show i < 9223372036854775807 by omega)]
          unfold sameArc
          cases ((gt c.Arcs i).Kind == (gt c.Arcs j).Kind)
          · exact hX
          · cases ((gt c.Arcs i).From == (gt c.Arcs j).From)
            · exact hX
            · cases ((gt c.Arcs i).To == (gt c.Arcs j).To)
              · exact hX
              · exact .done
      have hL1 : Ev (fun n => qdU c n 0) (bif allN (fun j => arcS c.Pins (gt c.Arcs j) && newArc c.Arcs j) c.Arcs.length then .nxt (c.Arcs.length : Int) else .ret false) := by
        refine qfg ?_ (fun j hj X hX => Ev.succ ?_)
        · exact Ev.succ (by simp only [qdU, qu (Nat.le_refl _), cond_false]; exact .done)
        · simp only [qdU, qt hj, cond_true, qas hj, Option.bind_some, qq (show j < 9223372036854775807 by omega)]
          refine Ev.chk (qq8 hc.Pins (qiB hc.Arcs hj) hm) fun _ => Ev.bind (hL2 j hj) ?_
          cases newArc c.Arcs j
          · exact .done
          · exact hX
      have hL3 : Ev (fun n => qdV c n 0) (bif (c.Truth.all fun x => inI x 0 1) then .nxt (c.Truth.length : Int) else .ret false) :=
        qkj (fun n => by simp only [qdV, qu (Nat.le_refl _), cond_false]) (fun j hj X hX => by
          simp only [qdV, qt hj, cond_true, qgH hj, Option.bind_some, qeK, qq (show j < 9223372036854775807 by omega), qbz]
          exact Ev.okP1 fun _ => hX)
      refine Ev.bind hL1 ?_
      cases hA : allN (fun j => arcS c.Pins (gt c.Arcs j) && newArc c.Arcs j) c.Arcs.length
      · exact .done
      · have hk : ∀ j, j < c.Arcs.length → 1 ≤ (gt c.Arcs j).Kind ∧ (gt c.Arcs j).Kind ≤ 5 := fun j hj => by
          have := qaZ.1 hA j hj
          rw [Bool.and_eq_true] at this
          exact qn5 this.1
        simp only [cond_true, Bool.true_and]
        refine Ev.bind (qpc hc.Arcs hk) ?_
        simp only [(qoO hm hm5).2, Option.bind_some,
          show idx (vecC (fun k => kindN c.Arcs k c.Arcs.length) 6) (1 : Int) = some ((kindN c.Arcs 1 c.Arcs.length : Nat) : Int) from qiO (k := 1) (by omega),
          show idx (vecC (fun k => kindN c.Arcs k c.Arcs.length) 6) (2 : Int) = some ((kindN c.Arcs 2 c.Arcs.length : Nat) : Int) from qiO (k := 2) (by omega),
          show idx (vecC (fun k => kindN c.Arcs k c.Arcs.length) 6) (3 : Int) = some ((kindN c.Arcs 3 c.Arcs.length : Nat) : Int) from qiO (k := 3) (by omega), qnW, qpK]
        unfold kindB
        refine Ev.iff (fun _ => ?_) (fun _ => Ev.iff (fun _ => ?_) (fun _ => Ev.iff (fun _ => ?_) (fun _ => .done)))
        · refine Ev.bind hL3 ?_
          cases (c.Truth.all fun x => inI x 0 1)
          · exact Ev.now (by simp)
          · exact (Ev.andP (fun _ => .done)).cast (by rw [Bool.and_true])
        · refine (Ev.andP fun _ => Ev.andP fun _ => Ev.andP fun _ => .done).cast ?_
          cases (((clkN c.Pins c.Pins.length : Nat) : Int) == 1) <;> cases ((c.Truth.length : Int) == 0) <;> cases hasB c.Arcs ((1 : Nat) : Int) <;> cases hasB c.Arcs ((2 : Nat) : Int) <;> cases hasB c.Arcs ((3 : Nat) : Int) <;> rfl
        · refine (Ev.andP fun _ => Ev.andP fun _ => Ev.andP fun _ => Ev.andP fun _ => .done).cast ?_
          cases (((clkN c.Pins c.Pins.length : Nat) : Int) == 1) <;> cases ((c.Truth.length : Int) == 0) <;> cases hasB c.Arcs ((1 : Nat) : Int) <;> cases hasB c.Arcs ((2 : Nat) : Int) <;> cases hasB c.Arcs ((3 : Nat) : Int) <;> rfl

/-! ### Libraries -/

def libB (l : qv) : Bool := l.Cells.all cellB && (decide (l.Cells.length ≤ 8) && namesB (l.Cells.map qC.Name))

theorem qow {l : qv} (h : qg3 l) : Ev (fun n => qgh n l) (libB l) := by
  have hl := h.Cells.len
  have hL : Ev (fun n => qbZ l n ([] : List ByteArray) 0) (bif allN (fun j => cellB (gt l.Cells j)) l.Cells.length then .nxt (l.Cells.map qC.Name, (l.Cells.length : Int)) else .ret false) := by
    refine loopN (Lf := qbZ l) (S := fun j => (l.Cells.take j).map qC.Name) (fun j => cellB (gt l.Cells j)) (fun n => ?_) (fun j hj hp X hX => ?_)
    · simp only [qbZ, qu (Nat.le_refl _), cond_false, List.take_length]
    · simp only [qbZ, qt hj, cond_true, qas hj, Option.bind_some, qjC hj hl, qfN (g := qC.Name) hj, qq (show j < 9223372036854775807 by omega)]
      exact Ev.chk1 (qqI (qiB h.Cells hj)) hX
  unfold qgh libB
  rw [qia]
  refine Ev.bind hL ?_
  cases allN (fun j => cellB (gt l.Cells j)) l.Cells.length
  · exact .done
  · simp only [cond_true, Bool.true_and, show decide ((l.Cells.length : Int) ≤ 8) = decide (l.Cells.length ≤ 8) from qjJ (k := 8)]
    exact Ev.andP fun _ => Ev.last (qil (qkw h.Cells (fun x hx => hx.Name)))
end Go.Fw


namespace Go.Fw
open Go
set_option maxRecDepth 100000

theorem qpZ {c : qC} (h : cellB c = true) : nameB c.Name = true := by
  unfold cellB at h; rw [Bool.and_eq_true] at h; exact h.1
theorem qmQ {c : qC} (h : cellB c = true) : pinsB c.Pins = true := by
  unfold cellB at h; simp only [Bool.and_eq_true] at h; exact h.2.1

theorem qnn {l : qv} (h : qg3 l) : Ev (fun n => qgs n l) (libB l) := by
  have hl := h.Cells.len
  have hL2 : ∀ j, j < l.Cells.length → Ev (fun n => qcz l (j : Int) n 0) (bif allN (neB (l.Cells.map qC.Name) j) j then .nxt (j : Int) else .ret false) := by
    intro j hj
    refine qfg ?_ (fun i hi X hX => Ev.succ ?_)
    · exact Ev.succ (by simp only [qcz, qu (Nat.le_refl _), cond_false]; exact .done)
    · simp only [qcz, qt hi, cond_true, qas (show i < l.Cells.length by omega), qas hj, Option.bind_some, qgP, qq (show i < 9223372036854775807 by omega)]
      unfold neB
      rw [qiK (g := qC.Name) (show i < l.Cells.length by omega), qiK (g := qC.Name) hj]
      exact Ev.chkP1 (fun _ => hX)
  have hL1 : Ev (fun n => qcw l n 0) (bif allN (fun j => cellB (gt l.Cells j) && allN (neB (l.Cells.map qC.Name) j) j) l.Cells.length then .nxt (l.Cells.length : Int) else .ret false) := by
    refine qfg ?_ (fun j hj X hX => Ev.succ ?_)
    · exact Ev.succ (by simp only [qcw, qu (Nat.le_refl _), cond_false]; exact .done)
    · simp only [qcw, qt hj, cond_true, qas hj, Option.bind_some, qq (show j < 9223372036854775807 by omega)]
      refine Ev.chk (qpB (qiB h.Cells hj)) fun _ => Ev.bind (hL2 j hj) ?_
      cases allN (neB (l.Cells.map qC.Name) j) j
      · exact .done
      · exact hX
  have e : libB l = (allN (fun j => cellB (gt l.Cells j) && allN (neB (l.Cells.map qC.Name) j) j) l.Cells.length && decide (l.Cells.length ≤ 8)) := by
    unfold libB namesB
    rw [qia, List.length_map, Bool.and_comm (decide (l.Cells.length ≤ 8)), ← Bool.and_assoc, ← qiY]
    congr 1
    refine qg2 (fun j hj => ?_)
    rw [qiK (g := qC.Name) hj]
    cases hc : cellB (gt l.Cells j)
    · rfl
    · rw [qpZ hc]; rfl
  rw [e]
  unfold qgs
  refine Ev.bind hL1 ?_
  cases allN (fun j => cellB (gt l.Cells j) && allN (neB (l.Cells.map qC.Name) j) j) l.Cells.length
  · exact .done
  · refine Ev.now ?_
    show some (decide ((l.Cells.length : Int) ≤ ((8 : Nat) : Int))) = some (true && decide (l.Cells.length ≤ 8))
    rw [qjJ, Bool.true_and]

theorem qjn {c c' : Nat → Nat} {m : Nat} {x : Int} (h0 : 0 ≤ x) (h1 : x < m) (hc : c x.toNat < 9223372036854775807) (he : ∀ k, k < m → c' k = c k + (bif x == (k : Int) then 1 else 0)) :
    idx (vecC c m) x = some (c x.toNat : Int) ∧ setS (vecC c m) x (W64 ((c x.toNat : Int) + 1)) = vecC c' m := by
  have ex : x = (x.toNat : Int) := qkW h0
  have e1 := qiO (c := c) (m := m) (k := x.toNat) (by omega)
  have e2 := qoe (c := c) (m := m) (k := x.toNat) hc
  rw [← ex] at e1 e2
  refine ⟨e1, e2.trans (qiN (fun k hk => ?_))⟩
  rw [he k hk]
  congr 2
  rw [Bool.eq_iff_iff]; simp; omega

/-! ### Parts of a design -/

def netB (d : qj) (x : Int) : Bool := inI x 0 ((d.Nets.length : Int) - 1)
theorem qpr {n : Nat} {d : qj} {x : Int} (hl : d.Nets.length ≤ 1048576) : qc7 n d x = some (netB d x) := by
  simp only [qc7, qfC, Option.bind_some, qev, qco (show d.Nets.length ≤ 9223372036854775807 by omega)]; rfl
theorem qog {n : Nat} {d : qj} {x : Int} (hl : d.Nets.length ≤ 1048576) : qaD n x 0 (W64 ((d.Nets.length : Int) - 1)) = some (netB d x) := by
  rw [qeK, qco (show d.Nets.length ≤ 9223372036854775807 by omega)]; rfl

def hasNamesB (d : qj) : Bool := (decide (d.Instances.length ≤ 14) && (decide (d.Nets.length ≤ 30) && decide (d.Ports.length ≤ 8))) && (namesB (d.Instances.map qm.Name) && (namesB d.Nets && namesB (d.Ports.map qX.Name)))

theorem qo4 {d : qj} (h : qiJ d) : Ev (fun n => qdW n d) (hasNamesB d) := by
  have hli := h.Instances.len
  have hlp := h.Ports.len
  have hL1 : Ev (fun n => qaT d n ([] : List ByteArray) 0) (d.Instances.map qm.Name, (d.Instances.length : Int)) := by
    refine loopF (Lf := qaT d) (S := fun j => (d.Instances.take j).map qm.Name) (len := d.Instances.length) (fun n => ?_) (fun j hj X hX => ?_)
    · simp only [qaT, qu (Nat.le_refl _), cond_false, List.take_length]
    · simpa only [qaT, qt hj, cond_true, qas hj, Option.bind_some, qjC hj hli, qfN (g := qm.Name) hj, qq (show j < 9223372036854775807 by omega)] using hX
  have hL2 : Ev (fun n => qaU d n ([] : List ByteArray) 0) (d.Ports.map qX.Name, (d.Ports.length : Int)) := by
    refine loopF (Lf := qaU d) (S := fun j => (d.Ports.take j).map qX.Name) (len := d.Ports.length) (fun n => ?_) (fun j hj X hX => ?_)
    · simp only [qaU, qu (Nat.le_refl _), cond_false, List.take_length]
    · simpa only [qaU, qt hj, cond_true, qas hj, Option.bind_some, qjC hj hlp, qfN (g := qX.Name) hj, qq (show j < 9223372036854775807 by omega)] using hX
  unfold qdW hasNamesB
  refine Ev.bind hL1 (Ev.bind hL2 ?_)
  simp only [List.length_map]
  rw [show decide ((d.Instances.length : Int) ≤ 14) = decide (d.Instances.length ≤ 14) from qjJ (k := 14), show decide ((d.Nets.length : Int) ≤ 30) = decide (d.Nets.length ≤ 30) from qjJ (k := 30), show decide ((d.Ports.length : Int) ≤ 8) = decide (d.Ports.length ≤ 8) from qjJ (k := 8)]
  rw [Bool.and_assoc, Bool.and_assoc]
  exact Ev.andP fun _ => Ev.andP fun _ => Ev.andP fun _ => Ev.and (qil (qkw h.Instances (fun x hx => hx.Name))) fun _ => Ev.and (qil h.Nets) fun _ => Ev.last (qil (qkw h.Ports (fun x hx => hx.Name)))

def instB (l : qv) (d : qj) (x : qm) : Bool := inI x.Cell 0 ((l.Cells.length : Int) - 1) && (((x.Nets.length : Int) == ((gt l.Cells x.Cell.toNat).Pins.length : Int)) && x.Nets.all (netB d))

theorem qnI {d : qj} {l : qv} {x : qm} (hn : d.Nets.length ≤ 1048576) (hc : l.Cells.length ≤ 1048576) (hx : x.Nets.length ≤ 1048576) : Ev (fun n => qc6 n d l x) (instB l d x) := by
  simp only [qc6, qeP, Option.bind_some, qev, qco (show l.Cells.length ≤ 9223372036854775807 by omega)]
  unfold instB
  refine Ev.andP fun hI => ?_
  rw [qdg] at hI
  rw [qgq hI.1 (by omega)]
  simp only [Option.bind_some]
  refine Ev.andP fun _ => Ev.bind (b := x.Nets.any fun y => !netB d y) ?_ (Ev.now (by rw [qlm]))
  unfold qaC
  exact Ev.bind (b := ixL (fun y => !netB d y) x.Nets) (qe5 (fin := (x.Nets.length : Int)) (Lf := qK x.Nets d) (pf := fun n y => qcF n y d) (fun y _ => ⟨0, fun n _ => by simp only [qcF, qpr hn, Option.bind_some]⟩)
      (fun n => by simp only [qK, qu (Nat.le_refl _), cond_false])
      (fun n j y hx => by
        have hj := (List.getElem?_eq_some_iff.1 hx).1
        simp only [qK, qt hj, cond_true, qat hx, Option.bind_some, qq (show j < 9223372036854775807 by omega)])
      (fun n => by unfold qaN; congr 1; funext o; cases o <;> rfl)) (Ev.now (by rw [qiX]))

def portB (d : qj) (p : qX) : Bool := inI p.Dir 1 2 && netB d p.Net
theorem qsI {x : Int} : inI x 1 2 = ((x == 1) || (x == 2)) := by
  unfold inI; rw [Bool.eq_iff_iff]; simp; omega

/-- The net that an instance drives. -/
def lastN (x : qm) : Int := at0 x.Nets (x.Nets.length - 1)
theorem qoP {x : qm} (h1 : 1 ≤ x.Nets.length) (h2 : x.Nets.length ≤ 1048576) : idx x.Nets (W64 ((x.Nets.length : Int) - 1)) = some (lastN x) := by
  rw [qco (by omega), show ((x.Nets.length : Int) - 1) = ((x.Nets.length - 1 : Nat) : Int) by omega, qbx (by omega)]; rfl
theorem qqB {d : qj} {x : qm} (h1 : 1 ≤ x.Nets.length) (h : x.Nets.all (netB d) = true) : 0 ≤ lastN x ∧ lastN x < d.Nets.length := by
  rw [qgW (d := 0), qaZ] at h
  have := h (x.Nets.length - 1) (by omega)
  unfold netB at this
  rw [qdg] at this
  unfold lastN at0
  omega
theorem qm0 {l : qv} {d : qj} {x : qm} (hl : libB l = true) (h : instB l d x = true) : 1 ≤ x.Nets.length ∧ 0 ≤ lastN x ∧ lastN x < d.Nets.length := by
  unfold instB at h
  simp only [Bool.and_eq_true, qdg, beq_iff_eq] at h
  obtain ⟨h1, h2, h3⟩ := h
  unfold libB at hl
  simp only [Bool.and_eq_true] at hl
  have hc := hl.1
  rw [qia, qaZ] at hc
  have := qiT (qmQ (hc x.Cell.toNat (by omega)))
  have h4 : 1 ≤ x.Nets.length := by omega
  exact ⟨h4, qqB h4 h3⟩

def drvI (d : qj) (k j : Nat) : Nat := cntP (fun i => lastN (gt d.Instances i) == (k : Int)) j
def drvP (d : qj) (k j : Nat) : Nat := cntP (fun i => ((gt d.Ports i).Dir == 1) && ((gt d.Ports i).Net == (k : Int))) j
def drvB (d : qj) : Bool := allN (fun k => ((drvI d k d.Instances.length + drvP d k d.Ports.length : Nat) : Int) == 1) d.Nets.length
def designB (l : qv) (d : qj) : Bool := (libB l && hasNamesB d) && (d.Instances.all (instB l d) && (d.Ports.all (portB d) && drvB d))

theorem qlD {d : qj} {k j : Nat} : drvI d k (j + 1) = drvI d k j + (bif lastN (gt d.Instances j) == (k : Int) then 1 else 0) := rfl
theorem qkv {d : qj} {k j : Nat} : drvP d k (j + 1) = drvP d k j + (bif ((gt d.Ports j).Dir == 1) && ((gt d.Ports j).Net == (k : Int)) then 1 else 0) := rfl

theorem qpt {l : qv} {d : qj} (h : qg3 l) (hd : qiJ d) : Ev (fun n => qgJ n l d) (designB l d) := by
  have hli := hd.Instances.len
  have hlp := hd.Ports.len
  have hln := hd.Nets.len
  have hlc := h.Cells.len
  unfold qgJ designB
  refine Ev.guardB (Ev.or (qow h) fun _ => Ev.neg (qo4 hd)) fun hb => ?_
  rw [Bool.and_eq_true] at hb
  rw [qkB (m := d.Nets.length) (by omega)]
  simp only [Option.bind_some]
  have hL1 : Ev (fun n => qci l d n (vecC (fun _ => 0) d.Nets.length) 0) (bif allN (fun j => instB l d (gt d.Instances j)) d.Instances.length then .nxt (vecC (fun k => drvI d k d.Instances.length) d.Nets.length, (d.Instances.length : Int)) else .ret false) := by
    refine loopN (Lf := qci l d) (S := fun j => vecC (fun k => drvI d k j) d.Nets.length) (fun j => instB l d (gt d.Instances j)) (fun n => ?_) (fun j hj hp X hX => ?_)
    · simp only [qci, qu (Nat.le_refl _), cond_false]
    · simp only [qci, qt hj, cond_true, qas hj, Option.bind_some, qq (show j < 9223372036854775807 by omega)]
      have hxl := (qiB hd.Instances hj).Nets.len
      refine Ev.chk1 (qnI hln hlc hxl) fun hi => ?_
      obtain ⟨h1, h2, h3⟩ := qm0 hb.1 hi
      have hc : drvI d (lastN (gt d.Instances j)).toNat j ≤ j := qeY
      obtain ⟨e1, e2⟩ := qjn (c := fun k => drvI d k j) (c' := fun k => drvI d k (j + 1)) h2 h3 (by show drvI _ _ _ < _; omega) (fun k _ => qlD)
      simp only [qoP h1 hxl, Option.bind_some, e1, e2]
      exact hX hi
  have hL2 : Ev (fun n => qbQ d n (vecC (fun k => drvI d k d.Instances.length) d.Nets.length) 0) (bif allN (fun j => portB d (gt d.Ports j)) d.Ports.length then .nxt (vecC (fun k => drvI d k d.Instances.length + drvP d k d.Ports.length) d.Nets.length, (d.Ports.length : Int)) else .ret false) := by
    refine loopN (Lf := qbQ d) (S := fun j => vecC (fun k => drvI d k d.Instances.length + drvP d k j) d.Nets.length) (fun j => portB d (gt d.Ports j)) (fun n => ?_) (fun j hj hp X hX => ?_)
    · simp only [qbQ, qu (Nat.le_refl _), cond_false]
    · simp only [qbQ, qt hj, cond_true, qas hj, Option.bind_some, qpr hln, bne, qq (show j < 9223372036854775807 by omega)]
      refine Ev.chkT1 ?_ fun hi => ?_
      · unfold portB
        rw [qsI]
        cases ((gt d.Ports j).Dir == 1) <;> cases ((gt d.Ports j).Dir == 2) <;> exact .done
      · have hX := hX hi
        unfold portB netB at hi
        simp only [Bool.and_eq_true, qdg] at hi
        have hc1 : drvI d (gt d.Ports j).Net.toNat d.Instances.length ≤ d.Instances.length := qeY
        have hc2 : drvP d (gt d.Ports j).Net.toNat j ≤ j := qeY
        cases h1 : ((gt d.Ports j).Dir == 1)
        · have : vecC (fun k => drvI d k d.Instances.length + drvP d k (j + 1)) d.Nets.length = vecC (fun k => drvI d k d.Instances.length + drvP d k j) d.Nets.length := by
            refine qiN (fun k _ => ?_)
            rw [qkv, h1]; rfl
          rw [this] at hX
          exact hX
        · obtain ⟨e1, e2⟩ := qjn (c := fun k => drvI d k d.Instances.length + drvP d k j) (c' := fun k => drvI d k d.Instances.length + drvP d k (j + 1)) (x := (gt d.Ports j).Net) (m := d.Nets.length) hi.2.1 (by omega) (by show drvI _ _ _ + drvP _ _ _ < _; omega) (fun k _ => by rw [qkv, h1, Bool.true_and]; omega)
          simp only [cond_true, Option.bind_some, e1, e2]
          exact hX
  rw [qia, qia]
  refine Ev.bind hL1 ?_
  cases allN (fun j => instB l d (gt d.Instances j)) d.Instances.length
  · exact .done
  · refine Ev.bind hL2 ?_
    cases allN (fun j => portB d (gt d.Ports j)) d.Ports.length
    · exact .done
    · simp only [cond_true, Bool.true_and]
      unfold qbi
      refine Ev.bind (b := (vecC (fun k => drvI d k d.Instances.length + drvP d k d.Ports.length) d.Nets.length).any fun x => !(x == 1)) (Ev.bind (b := ixL (fun x => !(x == 1)) (vecC (fun k => drvI d k d.Instances.length + drvP d k d.Ports.length) d.Nets.length)) (qe5 (fin := (((vecC (fun k => drvI d k d.Instances.length + drvP d k d.Ports.length) d.Nets.length).length : Nat) : Int)) (Lf := qW (vecC (fun k => drvI d k d.Instances.length + drvP d k d.Ports.length) d.Nets.length)) (pf := fun n y => qgX n y) (fun y _ => .done)
        (fun n => by simp only [qW, qu (Nat.le_refl _), cond_false])
        (fun n j y hx => by
          have hj := (List.getElem?_eq_some_iff.1 hx).1
          have : j < d.Nets.length := by rw [qj3] at hj; exact hj
          simp only [qW, qt hj, cond_true, qat hx, Option.bind_some, qq (show j < 9223372036854775807 by omega)])
        (fun n => by unfold qbw; congr 1; funext o; cases o <;> rfl)) (Ev.now (by rw [qiX]))) (Ev.now ?_)
      rw [qlm, qgW (d := 0), qj3]
      unfold drvB
      congr 1
      exact qg2 (fun k hk => by
        have := qoZ (c := fun k => drvI d k d.Instances.length + drvP d k d.Ports.length) hk
        unfold at0 at this
        rw [this])

theorem qpq {l : qv} {d : qj} (h : qg3 l) (hd : qiJ d) : Ev (fun n => qgR n l d) (d.Instances.all (instB l d) && d.Ports.all (portB d)) := by
  have hli := hd.Instances.len
  have hlp := hd.Ports.len
  have hln := hd.Nets.len
  have hlc := h.Cells.len
  have hL2 : ∀ x : qm, x.Nets.length ≤ 1048576 → Ev (fun n => qcU d x n 0) (bif x.Nets.all (netB d) then .nxt (x.Nets.length : Int) else .ret false) := fun x hx =>
    qkj (fun n => by simp only [qcU, qu (Nat.le_refl _), cond_false]) (fun j hj X hX => by
      simp only [qcU, qt hj, cond_true, qgH hj, Option.bind_some, qog hln, qq (show j < 9223372036854775807 by omega), qbz]
      exact Ev.okP1 fun _ => hX)
  have hL1 : Ev (fun n => qcV l d n 0) (bif allN (fun j => instB l d (gt d.Instances j)) d.Instances.length then .nxt (d.Instances.length : Int) else .ret false) := by
    refine qfg ?_ (fun j hj X hX => Ev.succ ?_)
    · exact Ev.succ (by simp only [qcV, qu (Nat.le_refl _), cond_false]; exact .done)
    · simp only [qcV, qt hj, cond_true, qas hj, Option.bind_some, qeK, qco (show l.Cells.length ≤ 9223372036854775807 by omega), qq (show j < 9223372036854775807 by omega), bne]
      have hxl := (qiB hd.Instances hj).Nets.len
      unfold instB
      rw [← Bool.and_assoc]
      refine Ev.chkT ?_ fun _ => Ev.bind (hL2 _ hxl) ?_
      · simp only [qbz]
        refine Ev.orBP fun hI => ?_
        rw [qdg] at hI
        rw [qgq hI.1 (by omega)]
        exact .done
      · cases (gt d.Instances j).Nets.all (netB d)
        · exact .done
        · exact hX
  have hL3 : Ev (fun n => qc2 d n 0) (bif allN (fun j => portB d (gt d.Ports j)) d.Ports.length then .nxt (d.Ports.length : Int) else .ret false) := by
    refine qfg ?_ (fun j hj X hX => Ev.succ ?_)
    · exact Ev.succ (by simp only [qc2, qu (Nat.le_refl _), cond_false]; exact .done)
    · simp only [qc2, qt hj, cond_true, qas hj, Option.bind_some, qog hln, qq (show j < 9223372036854775807 by omega)]
      simp only [qeK, Option.bind_some, qbz]
      unfold portB
      exact Ev.okP fun _ => Ev.okP1 fun _ => hX
  unfold qgR
  rw [qia, qia]
  refine Ev.bind hL1 ?_
  cases allN (fun j => instB l d (gt d.Instances j)) d.Instances.length
  · exact .done
  · refine Ev.bind hL3 ?_
    cases allN (fun j => portB d (gt d.Ports j)) d.Ports.length <;> exact .done

theorem qls {l : qv} {d : qj} (h : qg3 l) (hd : qiJ d) : Ev (fun n => qf1 n l d) (designB l d) := by
  have hli := hd.Instances.len
  have hlp := hd.Ports.len
  have hln := hd.Nets.len
  have hlc := h.Cells.len
  have e : designB l d = ((libB l && (decide (d.Instances.length ≤ 14) && (decide (d.Nets.length ≤ 30) && (decide (d.Ports.length ≤ 8) && (d.Instances.all (instB l d) && d.Ports.all (portB d)))))) && ((namesB (d.Instances.map qm.Name) && (namesB (d.Ports.map qX.Name) && namesB d.Nets)) && drvB d)) := by
    unfold designB hasNamesB
    generalize libB l = a1
    generalize decide (d.Instances.length ≤ 14) = a2
    generalize decide (d.Nets.length ≤ 30) = a3
    generalize decide (d.Ports.length ≤ 8) = a4
    generalize d.Instances.all (instB l d) = a5
    generalize d.Ports.all (portB d) = a6
    generalize namesB (d.Instances.map qm.Name) = a7
    generalize namesB (d.Ports.map qX.Name) = a8
    generalize namesB d.Nets = a9
    generalize drvB d = a10
    rw [Bool.eq_iff_iff]
    simp only [Bool.and_eq_true]
    constructor
    · rintro ⟨⟨h1, ⟨h2, h3, h4⟩, h7, h9, h8⟩, h5, h6, h10⟩
      exact ⟨⟨h1, h2, h3, h4, h5, h6⟩, ⟨h7, h8, h9⟩, h10⟩
    · rintro ⟨⟨h1, h2, h3, h4, h5, h6⟩, ⟨h7, h8, h9⟩, h10⟩
      exact ⟨⟨h1, ⟨h2, h3, h4⟩, h7, h9, h8⟩, h5, h6, h10⟩
  rw [e]
  unfold qf1
  refine Ev.guardB ?_ fun hb => ?_
  · refine Ev.or (qnn h) fun _ => ?_
    rw [show decide ((d.Instances.length : Int) > 14) = !decide (d.Instances.length ≤ 14) by rw [Bool.eq_iff_iff]; simp; omega, show decide ((d.Nets.length : Int) > 30) = !decide (d.Nets.length ≤ 30) by rw [Bool.eq_iff_iff]; simp; omega, show decide ((d.Ports.length : Int) > 8) = !decide (d.Ports.length ≤ 8) by rw [Bool.eq_iff_iff]; simp; omega]
    simp only [qbz]
    exact Ev.orBP fun _ => Ev.orBP fun _ => Ev.orBP fun _ => Ev.neg (qpq h hd)
  · simp only [Bool.and_eq_true] at hb
    obtain ⟨hlib, _, _, _, hI, hP⟩ := hb
    rw [qia, qaZ] at hI hP
    have hL1 : Ev (fun n => qcn d n ([] : List ByteArray) 0) (d.Instances.map qm.Name, (d.Instances.length : Int)) := by
      refine loopF (Lf := qcn d) (S := fun j => (d.Instances.take j).map qm.Name) (len := d.Instances.length) (fun n => ?_) (fun j hj X hX => ?_)
      · simp only [qcn, qu (Nat.le_refl _), cond_false, List.take_length]
      · simpa only [qcn, qt hj, cond_true, qas hj, Option.bind_some, qjC hj hli, qfN (g := qm.Name) hj, qq (show j < 9223372036854775807 by omega)] using hX
    have hL2 : Ev (fun n => qcl d n ([] : List ByteArray) 0) (d.Ports.map qX.Name, (d.Ports.length : Int)) := by
      refine loopF (Lf := qcl d) (S := fun j => (d.Ports.take j).map qX.Name) (len := d.Ports.length) (fun n => ?_) (fun j hj X hX => ?_)
      · simp only [qcl, qu (Nat.le_refl _), cond_false, List.take_length]
      · simpa only [qcl, qt hj, cond_true, qas hj, Option.bind_some, qjC hj hlp, qfN (g := qX.Name) hj, qq (show j < 9223372036854775807 by omega)] using hX
    have hL3 : Ev (fun n => qcg d n (vecC (fun _ => 0) d.Nets.length) 0) (vecC (fun k => drvI d k d.Instances.length) d.Nets.length, (d.Instances.length : Int)) := by
      refine loopF (Lf := qcg d) (S := fun j => vecC (fun k => drvI d k j) d.Nets.length) (len := d.Instances.length) (fun n => ?_) (fun j hj X hX => ?_)
      · simp only [qcg, qu (Nat.le_refl _), cond_false]
      · have hxl := (qiB hd.Instances hj).Nets.len
        obtain ⟨h1, h2, h3⟩ := qm0 hlib (hI j hj)
        have hc : drvI d (lastN (gt d.Instances j)).toNat j ≤ j := qeY
        obtain ⟨e1, e2⟩ := qjn (c := fun k => drvI d k j) (c' := fun k => drvI d k (j + 1)) h2 h3 (by show drvI _ _ _ < _; omega) (fun k _ => qlD)
        simpa only [qcg, qt hj, cond_true, qas hj, Option.bind_some, qq (show j < 9223372036854775807 by omega), qoP h1 hxl, e1, e2] using hX
    have hL4 : Ev (fun n => qbM d n (vecC (fun k => drvI d k d.Instances.length) d.Nets.length) 0) (vecC (fun k => drvI d k d.Instances.length + drvP d k d.Ports.length) d.Nets.length, (d.Ports.length : Int)) := by
      refine loopF (Lf := qbM d) (S := fun j => vecC (fun k => drvI d k d.Instances.length + drvP d k j) d.Nets.length) (len := d.Ports.length) (fun n => ?_) (fun j hj X hX => ?_)
      · simp only [qbM, qu (Nat.le_refl _), cond_false]
      · have hi := hP j hj
        unfold portB netB at hi
        simp only [Bool.and_eq_true, qdg] at hi
        have hc1 : drvI d (gt d.Ports j).Net.toNat d.Instances.length ≤ d.Instances.length := qeY
        have hc2 : drvP d (gt d.Ports j).Net.toNat j ≤ j := qeY
        simp only [qbM, qt hj, cond_true, qas hj, Option.bind_some, qq (show j < 9223372036854775807 by omega)]
        cases h1 : ((gt d.Ports j).Dir == 1)
        · have : vecC (fun k => drvI d k d.Instances.length + drvP d k (j + 1)) d.Nets.length = vecC (fun k => drvI d k d.Instances.length + drvP d k j) d.Nets.length := by
            refine qiN (fun k _ => ?_)
            rw [qkv, h1]; rfl
          rw [this] at hX
          exact hX
        · obtain ⟨e1, e2⟩ := qjn (c := fun k => drvI d k d.Instances.length + drvP d k j) (c' := fun k => drvI d k d.Instances.length + drvP d k (j + 1)) (x := (gt d.Ports j).Net) (m := d.Nets.length) hi.2.1 (by omega) (by show drvI _ _ _ + drvP _ _ _ < _; omega) (fun k _ => by rw [qkv, h1, Bool.true_and]; omega)
          simp only [cond_true, Option.bind_some, e1, e2]
          exact hX
    have hL5 : Ev (fun n => qcW (vecC (fun _ => 0) d.Nets.length) (vecC (fun k => drvI d k d.Instances.length + drvP d k d.Ports.length) d.Nets.length) n 0) (bif drvB d then .nxt (d.Nets.length : Int) else .ret false) := by
      refine qfg ?_ (fun j hj X hX => Ev.succ ?_)
      · exact Ev.succ (by simp only [qcW, qj3, qu (Nat.le_refl _), cond_false]; exact .done)
      · simp only [qcW, qj3, qt hj, cond_true, qiO hj, Option.bind_some, bne, qbz, qq (show j < 9223372036854775807 by omega)]
        exact Ev.okP1 fun _ => hX
    refine Ev.bind hL1 (Ev.bind hL2 ?_)
    refine Ev.guardB (Ev.or (qke (qkw hd.Instances (fun x hx => hx.Name))) fun _ => Ev.or (qke (qkw hd.Ports (fun x hx => hx.Name))) fun _ => Ev.neg (qke hd.Nets)) fun _ => ?_
    rw [qkB (m := d.Nets.length) (by omega)]
    simp only [Option.bind_some]
    refine Ev.bind hL3 (Ev.bind hL4 (Ev.bind hL5 ?_))
    cases drvB d <;> exact .done
end Go.Fw


namespace Go.Fw
open Go
set_option maxRecDepth 100000

theorem qqp {m k : Nat} : decide ((m : Int) < (k : Int)) = !decide (k ≤ m) := by rw [Bool.eq_iff_iff]; simp
theorem qjI {m k : Nat} : decide ((m : Int) > (k : Int)) = !decide (m ≤ k) := by rw [Bool.eq_iff_iff]; simp
/-! ### Wires -/

def treeB (w : qS) (j : Nat) : Bool := bif decide (j = 0) then (at0 w.Parent j == -1) && (at0 w.Res j == 0) else inI (at0 w.Parent j) 0 ((j : Int) - 1)
def wireB (w : qS) (s : Int) : Bool :=
  lenB w.Parent 1 8 && (((w.Res.length : Int) == (w.Parent.length : Int)) && (((w.Cap.length : Int) == (w.Parent.length : Int)) && (allN (treeB w) w.Parent.length &&
    ((w.Res.all fun x => inI x 0 1000) && ((w.Cap.all fun x => inI x 0 500) && (((w.Sink.length : Int) == s) && (w.Sink.all fun x => inI x 0 ((w.Parent.length : Int) - 1))))))))

theorem qqU {w : qS} (hl : w.Parent.length ≤ 1048576) (hr : ((w.Res.length : Int) == (w.Parent.length : Int)) = true) : Ev (fun n => qfw n w) (allN (treeB w) w.Parent.length) := by
  rw [beq_iff_eq] at hr
  have hL : Ev (fun n => qa0 w n 0) (bif allN (treeB w) w.Parent.length then .nxt (w.Parent.length : Int) else .ret false) := by
    refine qfg ?_ (fun j hj X hX => Ev.succ ?_)
    · exact Ev.succ (by simp only [qa0, qu (Nat.le_refl _), cond_false]; exact .done)
    · simp only [qa0, qt hj, cond_true, qbx hj, Option.bind_some, qev, qq (show j < 9223372036854775807 by omega), bne, qbz]
      unfold treeB
      by_cases h0 : j = 0
      · subst h0
        rw [show idx w.Res (0 : Int) = some (at0 w.Res 0) from qbx (j := 0) (by omega)]
        simp only [Option.bind_some]
        refine Ev.tt (by simp) (Ev.okP fun _ => Ev.okP1 fun _ => Ev.ff (by simp) hX)
      · have e1 : decide (j = 0) = false := by simp; omega
        have e2 : ((j : Int) == 0) = false := by simp; omega
        have e3 : decide ((j : Int) > 0) = true := by simp; omega
        rw [e1, e2, e3, qco (show j ≤ 9223372036854775807 by omega)]
        simp only [cond_false, cond_true]
        exact Ev.okP1 fun _ => hX
  unfold qfw
  refine Ev.bind hL ?_
  cases allN (treeB w) w.Parent.length <;> exact .done

theorem qqJ {w : qS} {s : Int} (h : qli w) : Ev (fun n => qir n w s) (wireB w s) := by
  have hl := h.Parent.len
  simp only [qir, qaB, Option.bind_some, qev, qco (show w.Parent.length ≤ 9223372036854775807 by omega)]
  unfold wireB
  rw [show inI (w.Parent.length : Int) 1 8 = lenB w.Parent 1 8 from qmD (lo := 1) (hi := 8)]
  exact Ev.andP fun _ => Ev.andP fun hr => Ev.andP fun _ => Ev.and (qqU hl hr) fun _ => Ev.and (qe7 h.Res.len) fun _ => Ev.and (qe7 h.Cap.len) fun _ => Ev.andP fun _ => Ev.last (qe7 h.Sink.len)

theorem qpF {w : qS} {s : Int} (h : qli w) : Ev (fun n => qik n w s) (wireB w s) := by
  have hl := h.Parent.len
  have hsl := h.Sink.len
  have e : wireB w s = ((decide (1 ≤ w.Parent.length) && (decide (w.Parent.length ≤ 8) && (((w.Res.length : Int) == (w.Parent.length : Int)) && (((w.Cap.length : Int) == (w.Parent.length : Int)) && ((w.Sink.length : Int) == s))))) && (allN (fun j => (inI (at0 w.Cap j) 0 500 && inI (at0 w.Res j) 0 1000) && treeB w j) w.Parent.length && (w.Sink.all fun x => inI x 0 ((w.Parent.length : Int) - 1)))) := by
    unfold wireB lenB
    cases h1 : ((w.Res.length : Int) == (w.Parent.length : Int))
    · simp
    · cases h2 : ((w.Cap.length : Int) == (w.Parent.length : Int))
      · simp
      · rw [beq_iff_eq] at h1 h2
        rw [qiY, qiY]
        rw [qgW (p := fun x => inI x 0 1000) (d := 0), qgW (p := fun x => inI x 0 500) (d := 0), show w.Res.length = w.Parent.length by omega, show w.Cap.length = w.Parent.length by omega]
        show _ = (_ && ((allN (fun j => inI (w.Cap.getD j 0) 0 500) _ && allN (fun j => inI (w.Res.getD j 0) 0 1000) _ && _) && _))
        generalize allN (fun j => inI (w.Cap.getD j 0) 0 500) w.Parent.length = a1
        generalize allN (fun j => inI (w.Res.getD j 0) 0 1000) w.Parent.length = a2
        generalize allN (fun j => treeB w j) w.Parent.length = a3
        generalize ((w.Sink.length : Int) == s) = a4
        generalize decide (1 ≤ w.Parent.length) = a5
        generalize decide (w.Parent.length ≤ 8) = a6
        generalize (w.Sink.all fun x => inI x 0 ((w.Parent.length : Int) - 1)) = a7
        cases a1 <;> cases a2 <;> cases a3 <;> cases a4 <;> cases a5 <;> cases a6 <;> rfl
  rw [e]
  unfold qik
  refine Ev.guardB ?_ fun hb => ?_
  · rw [show decide ((w.Parent.length : Int) < 1) = !decide (1 ≤ w.Parent.length) from qqp (k := 1), show decide ((w.Parent.length : Int) > 8) = !decide (w.Parent.length ≤ 8) from qjI (k := 8)]
    simp only [bne, qbz]
    exact Ev.orBP fun _ => Ev.orBP fun _ => Ev.orBP fun _ => Ev.orBP fun _ => .done
  · simp only [Bool.and_eq_true, beq_iff_eq] at hb
    have hL1 : Ev (fun n => qb4 w n 0) (bif allN (fun j => (inI (at0 w.Cap j) 0 500 && inI (at0 w.Res j) 0 1000) && treeB w j) w.Parent.length then .nxt (w.Parent.length : Int) else .ret false) := by
      refine qfg ?_ (fun j hj X hX => Ev.succ ?_)
      · exact Ev.succ (by simp only [qb4, qu (Nat.le_refl _), cond_false]; exact .done)
      · simp only [qb4, qt hj, cond_true, qbx hj, qbx (show j < w.Cap.length by omega), qbx (show j < w.Res.length by omega), Option.bind_some, qeK, qq (show j < 9223372036854775807 by omega), bne, qbz]
        refine Ev.chkT (Ev.orBP fun _ => .done) fun _ => ?_
        unfold treeB
        by_cases h0 : j = 0
        · subst h0
          refine Ev.tt (by simp) (Ev.okP fun _ => Ev.okP1 fun _ => Ev.ff (by simp) hX)
        · have e1 : decide (j = 0) = false := by simp; omega
          have e2 : ((j : Int) == 0) = false := by simp; omega
          have e3 : decide ((j : Int) > 0) = true := by simp; omega
          rw [e1, e2, e3, qco (show j ≤ 9223372036854775807 by omega)]
          simp only [cond_false, cond_true]
          exact Ev.okP1 fun _ => hX
    have hL2 : Ev (fun n => qd5 w n 0) (bif (w.Sink.all fun x => inI x 0 ((w.Parent.length : Int) - 1)) then .nxt (w.Sink.length : Int) else .ret false) :=
      qkj (fun n => by simp only [qd5, qu (Nat.le_refl _), cond_false]) (fun j hj X hX => by
        simp only [qd5, qt hj, cond_true, qgH hj, Option.bind_some, qeK, qco (show w.Parent.length ≤ 9223372036854775807 by omega), qq (show j < 9223372036854775807 by omega), qbz]
        exact Ev.okP1 fun _ => hX)
    refine Ev.bind hL1 ?_
    cases allN (fun j => (inI (at0 w.Cap j) 0 500 && inI (at0 w.Res j) 0 1000) && treeB w j) w.Parent.length
    · exact .done
    · refine Ev.bind hL2 ?_
      cases (w.Sink.all fun x => inI x 0 ((w.Parent.length : Int) - 1)) <;> exact .done

/-! ### Places -/

instance : Inhabited Tplace := ⟨⟨0, 0, 0, false⟩⟩
instance : Inhabited Tl05Place := ⟨⟨0, 0, 0, false⟩⟩
def toSp (p : Tplace) : Tl05Place := ⟨p.instance_, p.pin, p.net, p.drives⟩
def plX (i : Nat) (x : qm) (j : Nat) : List Tplace := (List.range j).map fun (k : Nat) => ⟨(i : Int), (k : Int), at0 x.Nets k, decide (k + 1 = x.Nets.length)⟩
def plI (d : qj) (j : Nat) : List Tplace := (List.range j).flatMap fun (i : Nat) => plX i (gt d.Instances i) (gt d.Instances i).Nets.length
def plP (d : qj) (j : Nat) : List Tplace := (List.range j).map fun (i : Nat) => ⟨-1, (i : Int), (gt d.Ports i).Net, (gt d.Ports i).Dir == 1⟩
def places (d : qj) : List Tplace := plI d d.Instances.length ++ plP d d.Ports.length

theorem qoV {i : Nat} {x : qm} {j : Nat} : plX i x (j + 1) = plX i x j ++ [⟨(i : Int), (j : Int), at0 x.Nets j, decide (j + 1 = x.Nets.length)⟩] := by
  unfold plX; rw [List.range_succ, List.map_append]; rfl
theorem qkb {d : qj} {j : Nat} : plI d (j + 1) = plI d j ++ plX j (gt d.Instances j) (gt d.Instances j).Nets.length := by
  unfold plI; rw [List.range_succ, List.flatMap_append]; simp
theorem qoY {d : qj} {j : Nat} : plP d (j + 1) = plP d j ++ [⟨-1, (j : Int), (gt d.Ports j).Net, (gt d.Ports j).Dir == 1⟩] := by
  unfold plP; rw [List.range_succ, List.map_append]; rfl
theorem qmF {i : Nat} {x : qm} {j : Nat} : (plX i x j).length = j := by simp [plX]
theorem qmH {d : qj} {j : Nat} : (plP d j).length = j := by simp [plP]

/-- What a valid design says of its sizes. -/
structure smallD (d : qj) : Prop where
  ni : d.Instances.length ≤ 14
  nn : d.Nets.length ≤ 30
  np : d.Ports.length ≤ 8
  nx : ∀ i, i < d.Instances.length → 2 ≤ (gt d.Instances i).Nets.length ∧ (gt d.Instances i).Nets.length ≤ 5

theorem qa2 {l : qv} {d : qj} (h : designB l d = true) : smallD d := by
  unfold designB hasNamesB libB at h
  simp only [Bool.and_eq_true, decide_eq_true_eq] at h
  obtain ⟨⟨⟨hc, _⟩, ⟨h1, h2, h3⟩, _⟩, hI, _⟩ := h
  refine ⟨h1, h2, h3, fun i hi => ?_⟩
  rw [qia, qaZ] at hI hc
  have := hI i hi
  unfold instB at this
  simp only [Bool.and_eq_true, qdg, beq_iff_eq] at this
  have h5 := qiT (qmQ (hc (gt d.Instances i).Cell.toNat (by omega)))
  omega
theorem qlj {d : qj} (h : smallD d) {j : Nat} (hj : j ≤ d.Instances.length) : (plI d j).length ≤ 5 * j := by
  induction j with
  | zero => exact Nat.le_refl _
  | succ j ih =>
    rw [qkb, List.length_append, qmF]
    have := ih (by omega)
    have := h.nx j (by omega)
    omega
theorem qcr {d : qj} (h : smallD d) : (places d).length ≤ 78 := by
  unfold places
  rw [List.length_append, qmH]
  have := qlj h (Nat.le_refl _)
  have := h.ni
  have := h.np
  omega

theorem qky {d : qj} (h : smallD d) : Ev (fun n => qb6 n d) (places d) := by
  have h1 := h.ni
  have h2 := h.np
  have hL2 : ∀ i, i < d.Instances.length → ∀ pre : List Tplace, pre.length ≤ 100 → Ev (fun n => qbb (i : Int) (gt d.Instances i) n pre 0) (pre ++ plX i (gt d.Instances i) (gt d.Instances i).Nets.length, ((gt d.Instances i).Nets.length : Int)) := by
    intro i hi pre hp
    have h5 := h.nx i hi
    have := loopF (Lf := qbb (i : Int) (gt d.Instances i)) (S := fun j => pre ++ plX i (gt d.Instances i) j) (len := (gt d.Instances i).Nets.length) (fin := (pre ++ plX i (gt d.Instances i) (gt d.Instances i).Nets.length, ((gt d.Instances i).Nets.length : Int))) (fun n => by
        simp only [qbb, qu (Nat.le_refl _), cond_false])
      (fun j hj X hX => by
        have hc : (pre ++ plX i (gt d.Instances i) j).length + [(⟨(i : Int), (j : Int), at0 (gt d.Instances i).Nets j, decide (j + 1 = (gt d.Instances i).Nets.length)⟩ : Tplace)].length ≤ 2147483648 := by
          rw [List.length_append, qmF]; simp; omega
        simp only [qbb, qt hj, cond_true, qbx hj, Option.bind_some, lastE hj (show (gt d.Instances i).Nets.length ≤ 1048576 by omega), qen hc, List.append_assoc, ← qoV, qq (show j < 9223372036854775807 by omega)]
        exact hX)
    simpa [plX] using this
  have hL1 : Ev (fun n => qa9 d n ([] : List Tplace) 0) (plI d d.Instances.length, (d.Instances.length : Int)) := by
    refine loopF (Lf := qa9 d) (S := fun j => plI d j) (len := d.Instances.length) (fun n => ?_) (fun j hj X hX => ?_)
    · simp only [qa9, qu (Nat.le_refl _), cond_false]
    · simp only [qa9, qt hj, cond_true, qas hj, Option.bind_some, qq (show j < 9223372036854775807 by omega)]
      refine Ev.bind (hL2 j hj _ (by have := qlj h (Nat.le_of_lt hj); omega)) ?_
      rw [← qkb]
      exact hX
  have hL3 : Ev (fun n => qba d n (plI d d.Instances.length) 0) (places d, (d.Ports.length : Int)) := by
    have := loopF (Lf := qba d) (S := fun j => plI d d.Instances.length ++ plP d j) (len := d.Ports.length) (fin := (places d, (d.Ports.length : Int))) (fun n => by
        simp only [qba, qu (Nat.le_refl _), cond_false]; rfl)
      (fun j hj X hX => by
        have hc : (plI d d.Instances.length ++ plP d j).length + [(⟨-1, (j : Int), (gt d.Ports j).Net, (gt d.Ports j).Dir == 1⟩ : Tplace)].length ≤ 2147483648 := by
          rw [List.length_append, qmH]; have := qlj h (Nat.le_refl _); simp; omega
        simp only [qba, qt hj, cond_true, qas hj, Option.bind_some, qen hc, List.append_assoc, ← qoY, qq (show j < 9223372036854775807 by omega)]
        exact hX)
    simpa [plP] using this
  unfold qb6
  exact Ev.bind hL1 (Ev.bind hL3 .done)

theorem qh5 {d : qj} (h : smallD d) : Ev (fun n => qc8 n d) ((places d).map toSp) := by
  have h1 := h.ni
  have h2 := h.np
  have hL2 : ∀ i, i < d.Instances.length → ∀ pre : List Tplace, pre.length ≤ 100 → Ev (fun n => qb1 (i : Int) (gt d.Instances i) n (pre.map toSp) 0) ((pre ++ plX i (gt d.Instances i) (gt d.Instances i).Nets.length).map toSp, ((gt d.Instances i).Nets.length : Int)) := by
    intro i hi pre hp
    have h5 := h.nx i hi
    have := loopF (Lf := qb1 (i : Int) (gt d.Instances i)) (S := fun j => (pre ++ plX i (gt d.Instances i) j).map toSp) (len := (gt d.Instances i).Nets.length) (fin := ((pre ++ plX i (gt d.Instances i) (gt d.Instances i).Nets.length).map toSp, ((gt d.Instances i).Nets.length : Int))) (fun n => by
        simp only [qb1, qu (Nat.le_refl _), cond_false])
      (fun j hj X hX => by
        have hc : ((pre ++ plX i (gt d.Instances i) j).map toSp).length + [(⟨(i : Int), (j : Int), at0 (gt d.Instances i).Nets j, decide (j + 1 = (gt d.Instances i).Nets.length)⟩ : Tl05Place)].length ≤ 2147483648 := by
          rw [List.length_map, List.length_append, qmF]; simp; omega
        simp only [qb1, qt hj, cond_true, qbx hj, Option.bind_some, lastE hj (show (gt d.Instances i).Nets.length ≤ 1048576 by omega), qen hc, qq (show j < 9223372036854775807 by omega)]
        rw [qoV, ← List.append_assoc, List.map_append] at hX
        exact hX)
    simpa [plX] using this
  have hL1 : Ev (fun n => qbY d n ([] : List Tl05Place) 0) ((plI d d.Instances.length).map toSp, (d.Instances.length : Int)) := by
    refine loopF (Lf := qbY d) (S := fun j => (plI d j).map toSp) (len := d.Instances.length) (fun n => ?_) (fun j hj X hX => ?_)
    · simp only [qbY, qu (Nat.le_refl _), cond_false]
    · simp only [qbY, qt hj, cond_true, qas hj, Option.bind_some, qq (show j < 9223372036854775807 by omega)]
      refine Ev.bind (hL2 j hj _ (by have := qlj h (Nat.le_of_lt hj); omega)) ?_
      rw [← qkb]
      exact hX
  have hL3 : Ev (fun n => qb2 d n ((plI d d.Instances.length).map toSp) 0) ((places d).map toSp, (d.Ports.length : Int)) := by
    have := loopF (Lf := qb2 d) (S := fun j => (plI d d.Instances.length ++ plP d j).map toSp) (len := d.Ports.length) (fin := ((places d).map toSp, (d.Ports.length : Int))) (fun n => by
        simp only [qb2, qu (Nat.le_refl _), cond_false]; rfl)
      (fun j hj X hX => by
        have hc : ((plI d d.Instances.length ++ plP d j).map toSp).length + [(⟨-1, (j : Int), (gt d.Ports j).Net, (gt d.Ports j).Dir == 1⟩ : Tl05Place)].length ≤ 2147483648 := by
          rw [List.length_map, List.length_append, qmH]; have := qlj h (Nat.le_refl _); simp; omega
        simp only [qb2, qt hj, cond_true, qas hj, Option.bind_some, qen hc, qq (show j < 9223372036854775807 by omega)]
        rw [qoY, ← List.append_assoc, List.map_append] at hX
        exact hX)
    simpa [plP] using this
  unfold qc8
  exact Ev.bind hL1 (Ev.bind hL3 .done)

def snkQ (d : qj) (k : Int) (i : Nat) : Bool := ((gt (places d) i).net == k) && !(gt (places d) i).drives
def sinksL (d : qj) (k : Int) (j : Nat) : List Int := ((List.range j).filter (snkQ d k)).map fun (i : Nat) => (i : Int)
def snkN (d : qj) (k : Int) : Nat := cntP (snkQ d k) (places d).length
theorem qi9 {d : qj} {k : Int} {j : Nat} : sinksL d k (j + 1) = sinksL d k j ++ (bif snkQ d k j then [(j : Int)] else []) := by
  unfold sinksL
  rw [List.range_succ, List.filter_append, List.map_append]
  congr 1
  cases h : snkQ d k j <;> simp [h]
theorem qfK {d : qj} {k : Int} {j : Nat} : (sinksL d k j).length = cntP (snkQ d k) j := by
  induction j with
  | zero => rfl
  | succ j ih =>
    rw [qi9, List.length_append, ih]
    show _ = cntP (snkQ d k) j + _
    congr 1
    cases snkQ d k j <;> rfl
theorem qlV {α β : Type} [Inhabited α] [Inhabited β] {xs : List α} {g : α → β} {j : Nat} (h : j < xs.length) : gt (xs.map g) j = g (gt xs j) := by
  rw [qiS (by simpa using h), qiS h]; simp

theorem ql4 {d : qj} {k : Int} (h : smallD d) : Ev (fun n => qf4 n d k) (sinksL d k (places d).length) := by
  have hl := qcr h
  have hL : Ev (fun n => qbN k ((places d).map toSp) n ([] : List Int) 0) (sinksL d k (places d).length, ((places d).length : Int)) := by
    refine loopF (Lf := qbN k ((places d).map toSp)) (S := fun j => sinksL d k j) (len := (places d).length) (fun n => ?_) (fun j hj X hX => ?_)
    · simp only [qbN, List.length_map, qu (Nat.le_refl _), cond_false]
    · have hj' : j < ((places d).map toSp).length := by simpa using hj
      have hc : (sinksL d k j).length + [(j : Int)].length ≤ 2147483648 := by
        rw [qfK]
        have : cntP (snkQ d k) j ≤ j := qeY
        simp; omega
      simp only [qbN, qt hj', cond_true, qas hj', qlV hj, Option.bind_some, qq (show j < 9223372036854775807 by omega)]
      rw [show ∀ p : Tplace, (toSp p).net = p.net from fun _ => rfl, show ∀ p : Tplace, (toSp p).drives = p.drives from fun _ => rfl]
      refine Ev.bind (b := snkQ d k j) (Ev.andP fun _ => .done) ?_
      rw [qi9] at hX
      cases hq : snkQ d k j
      · rw [hq] at hX
        simp only [cond_false, List.append_nil] at hX ⊢
        exact hX
      · rw [hq] at hX
        simp only [cond_true, qen hc, Option.bind_some] at hX ⊢
        exact hX
  unfold qf4
  exact Ev.bind (qh5 h) (Ev.bind hL .done)

theorem qjK {l : qv} {d : qj} (h : designB l d = true) {i : Nat} (hi : i < (places d).length) : 0 ≤ (gt (places d) i).net ∧ (gt (places d) i).net < d.Nets.length := by
  unfold designB at h
  simp only [Bool.and_eq_true] at h
  obtain ⟨_, hI, hP, _⟩ := h
  rw [qia, qaZ] at hI hP
  have hm : gt (places d) i ∈ places d := by rw [qiS hi]; exact List.getElem_mem hi
  generalize gt (places d) i = p at hm
  unfold places at hm
  rcases List.mem_append.1 hm with hm | hm
  · unfold plI at hm
    obtain ⟨i, hi, hm⟩ := List.mem_flatMap.1 hm
    unfold plX at hm
    obtain ⟨k, hk, rfl⟩ := List.mem_map.1 hm
    have := hI i (List.mem_range.1 hi)
    unfold instB at this
    simp only [Bool.and_eq_true] at this
    have h3 := this.2.2
    rw [qgW (d := 0), qaZ] at h3
    have h4 := h3 k (List.mem_range.1 hk)
    unfold netB at h4
    rw [qdg] at h4
    show 0 ≤ at0 _ _ ∧ at0 _ _ < _
    unfold at0
    omega
  · unfold plP at hm
    obtain ⟨i, hi, rfl⟩ := List.mem_map.1 hm
    have := hP i (List.mem_range.1 hi)
    unfold portB netB at this
    simp only [Bool.and_eq_true, qdg] at this
    show 0 ≤ (gt d.Ports i).Net ∧ (gt d.Ports i).Net < _
    omega

/-! ### Blocks -/

def blockB (b : qz) : Bool := (designB b.Library b.Design && ((b.Wires.length : Int) == (b.Design.Nets.length : Int))) && allN (fun j => wireB (gt b.Wires j) (snkN b.Design (j : Int))) b.Wires.length

theorem qmP {b : qz} (h : qfT b) : Ev (fun n => qhu n b) (blockB b) := by
  have hwl := h.Wires.len
  unfold qhu blockB
  refine Ev.guardB (Ev.or (qpt h.Library h.Design) fun _ => .done) fun hb => ?_
  rw [Bool.and_eq_true, beq_iff_eq] at hb
  obtain ⟨hd, hw⟩ := hb
  have hs := qa2 hd
  have hl := qcr hs
  have hn := hs.nn
  rw [qkB (m := b.Wires.length) (by omega)]
  simp only [Option.bind_some]
  have hL1 : Ev (fun n => qcd (places b.Design) n (vecC (fun _ => 0) b.Wires.length) 0) (vecC (fun k => snkN b.Design (k : Int)) b.Wires.length, ((places b.Design).length : Int)) := by
    refine loopF (Lf := qcd (places b.Design)) (S := fun j => vecC (fun k => cntP (snkQ b.Design (k : Int)) j) b.Wires.length) (len := (places b.Design).length) (fun n => ?_) (fun j hj X hX => ?_)
    · simp only [qcd, qu (Nat.le_refl _), cond_false]; rfl
    · simp only [qcd, qt hj, cond_true, qas hj, Option.bind_some, qq (show j < 9223372036854775807 by omega)]
      obtain ⟨n0, n1⟩ := qjK hd hj
      cases h1 : (gt (places b.Design) j).drives
      · have hc : cntP (snkQ b.Design (((gt (places b.Design) j).net.toNat : Nat) : Int)) j ≤ j := qeY
        obtain ⟨e1, e2⟩ := qjn (c := fun k => cntP (snkQ b.Design (k : Int)) j) (c' := fun k => cntP (snkQ b.Design (k : Int)) (j + 1)) (x := (gt (places b.Design) j).net) (m := b.Wires.length) n0 (by omega) (by show cntP _ _ < _; omega) (fun k _ => by
          show cntP _ j + (bif snkQ b.Design (k : Int) j then 1 else 0) = _
          unfold snkQ
          rw [h1, Bool.not_false, Bool.and_true])
        simp only [Bool.not_false, cond_true, Option.bind_some, e1, e2]
        exact hX
      · have : vecC (fun k => cntP (snkQ b.Design (k : Int)) (j + 1)) b.Wires.length = vecC (fun k => cntP (snkQ b.Design (k : Int)) j) b.Wires.length := by
          refine qiN (fun k _ => ?_)
          show cntP _ j + (bif snkQ b.Design (k : Int) j then 1 else 0) = _
          unfold snkQ
          rw [h1, Bool.not_true, Bool.and_false]; rfl
        rw [this] at hX
        exact hX
  have hL2 : Ev (fun n => qds b (vecC (fun k => snkN b.Design (k : Int)) b.Wires.length) n 0) (bif allN (fun j => wireB (gt b.Wires j) (snkN b.Design (j : Int))) b.Wires.length then .nxt (b.Wires.length : Int) else .ret false) := by
    refine qfg ?_ (fun j hj X hX => Ev.succ ?_)
    · exact Ev.succ (by simp only [qds, qu (Nat.le_refl _), cond_false]; exact .done)
    · simp only [qds, qt hj, cond_true, qas hj, qiO hj, Option.bind_some, qq (show j < 9223372036854775807 by omega)]
      exact Ev.chk1 (qqJ (qiB h.Wires hj)) fun _ => hX
  refine Ev.bind (qky hs) (Ev.bind hL1 (Ev.bind hL2 ?_))
  cases allN (fun j => wireB (gt b.Wires j) (snkN b.Design (j : Int))) b.Wires.length <;> exact .done

theorem qj6 {b : qz} (h : qfT b) : Ev (fun n => qfF n b) (blockB b) := by
  have hwl := h.Wires.len
  unfold qfF blockB
  refine Ev.guardB (Ev.or (qls h.Library h.Design) fun _ => .done) fun hb => ?_
  rw [Bool.and_eq_true] at hb
  have hs := qa2 hb.1
  have hL : Ev (fun n => qdn b n 0) (bif allN (fun j => wireB (gt b.Wires j) (snkN b.Design (j : Int))) b.Wires.length then .nxt (b.Wires.length : Int) else .ret false) := by
    refine qfg ?_ (fun j hj X hX => Ev.succ ?_)
    · exact Ev.succ (by simp only [qdn, qu (Nat.le_refl _), cond_false]; exact .done)
    · simp only [qdn, qt hj, cond_true, qas hj, Option.bind_some, qq (show j < 9223372036854775807 by omega)]
      refine Ev.bind (ql4 hs) ?_
      rw [qfK]
      exact Ev.chk1 (qpF (qiB h.Wires hj)) fun _ => hX
  refine Ev.bind hL ?_
  cases allN (fun j => wireB (gt b.Wires j) (snkN b.Design (j : Int))) b.Wires.length <;> exact .done
end Go.Fw
