/- By a program of mine (gen.py): for each function a plain function and the proof that the code computes it. -/
import Derived.Test.YtihkipojhdehnaaGreatDoorA3
import Derived.Test.YtihkipojhdehnaaGreatDoorFw34

namespace Go.Fw
open Go Go.Proofs
open Go.RowKit (Below)
set_option maxRecDepth 100000
set_option maxHeartbeats 1600000
def qgy (n : Nat) (t : qH) : Option Bool :=
 (qf9 n t.Slews).bind fun r1 =>
 bif r1 then
  (qf9 n t.Loads).bind fun r2 =>
  bif r2 then
   bif ((t.Values.length : Int) == (W64 ((t.Slews.length : Int) * (t.Loads.length : Int)))) then
    (qbv n t.Values (-1000000) 1000000).bind fun r3 =>
    some r3
   else
    some false
  else
   some false
 else
  some false

theorem qkW {n : Nat} {w : World} {t : qH} {cs1 : List Value} (ha1 : GoT.R w (old w) t cs1) {r : Bool} (hF : qgy n t = some r) : RetV Tryz.prog 256 [GoT.v qH cs1] w r := by
 obtain ⟨p1, k1, p2, k2, p3, k3, rfl, s1, s2, s3⟩ := qbB ha1
 refine qf Tryz.func256 rfl (m := 29) rfl rfl (fun h => ?_)
 rw [qgy] at hF
 refine zSR (qS h rfl rfl ?_)
 intro w1 bb1 h
 refine zp1 rfl (zNSR (zp1 rfl (zl 0 0 h rfl ?_)))
 obtain ⟨r1, hr1, hF⟩ := qd hF
 refine qm r1 h call265 (qjg ⟨_, _, rfl, (h.oldS s1)⟩ hr1) rfl rfl rfl rfl ?_
 intro w2 h
 refine zp1 rfl ?_
 by_cases hc1 : r1 = true
 ·replace hF := bifT hc1 hF
  refine qC hc1 (t := 6) rfl (qa rfl (zp1 rfl (qa rfl (zl 0 1 h rfl (qa rfl ?_)))))
  obtain ⟨r2, hr2, hF⟩ := qd hF
  refine qm r2 h call265 (qjg ⟨_, _, rfl, (h.oldS s2)⟩ hr2) rfl rfl rfl rfl ?_
  intro w3 h
  refine zp2 rfl ?_
  by_cases hc2 : r2 = true
  ·replace hF := bifT hc2 hF
   refine qC hc2 (t := 11) rfl (qa rfl (zp1 rfl (qa rfl (zl 0 2 h rfl (qa rfl (zp1 rfl (qa rfl (zp1 rfl (qa rfl (zl 0 0 h rfl (qa rfl ?_)))))))))))
   refine zp1 rfl (qa rfl (zp1 rfl (qa rfl (zl 0 1 h rfl (qa rfl (zp1 rfl (qa rfl (zp1 rfl (qa rfl (zp2 rfl ?_))))))))))
   refine zp1 rfl ?_
   by_cases hc3 : ((t.Values.length : Int) == (W64 ((t.Slews.length : Int) * (t.Loads.length : Int)))) = true
   ·replace hF := bifT hc3 hF
    refine qC hc3 (t := 24) rfl (qa rfl (zp1 rfl (qa rfl (zl 0 2 h rfl (qa rfl ?_)))))
    obtain ⟨r3, hr3, hF⟩ := qd hF
    refine qm r3 h call112 (qcD ⟨_, _, rfl, (h.oldS s3)⟩ hr3) rfl rfl rfl rfl ?_
    intro w4 h
    exact zp2 rfl (qb (qt qc h hF ⟨rfl, trivial⟩))
   replace hc3 := zb hc3
   replace hF := bifF hc3 hF
   exact qB hc3 (t := 24) rfl (zn3 rfl (zp2 rfl (qb (qt qc h hF ⟨rfl, trivial⟩))))
  replace hc2 := zb hc2
  replace hF := bifF hc2 hF
  refine qB hc2 (t := 11) rfl (zn5 rfl (zn5 rfl (zn1 rfl ?_)))
  exact zp2 rfl (zn3 rfl (zp2 rfl (qb (qt qc h hF ⟨rfl, trivial⟩))))
 replace hc1 := zb hc1
 replace hF := bifF hc1 hF
 refine qB hc1 (t := 6) rfl (zn3 rfl (zp2 rfl (zn5 rfl (zn1 rfl ?_))))
 refine zn5 rfl (zp2 rfl (zn3 rfl (zp2 rfl ?_)))
 exact qb (qt qc h hF ⟨rfl, trivial⟩)

def qbD (x : (List Int)) : Nat → Int → Int → Option (Int × Int)
 | 0, _, _ => none
 | n + 1, i1, i2 =>
  bif decide (i2 < (x.length : Int)) then
   (idx x i2).bind fun y2 =>
   qbD x n (if y2 < i1 then y2 else i1) (W64 (i2 + 1))
  else
   some (i1, i2)

def qey (n : Nat) (x : (List Int)) : Option Int :=
 (
  bif decide ((x.length : Int) < 1) then
   none
  else
   some ()).bind fun _ =>
 (idx x 0).bind fun y1 =>
 (qbD x n y1 1).bind fun o => match o with
 | (i1, _) =>
  some i1

theorem qjH {n : Nat} {w : World} {x : (List Int)} {cs1 : List Value} (ha1 : GoT.R w (old w) x cs1) {r : Int} (hF : qey n x = some r) : RetV Tryz.prog 257 [GoT.v (List Int) cs1] w r := by
 obtain ⟨p1, k1, rfl, s1⟩ := ha1
 refine qf Tryz.func257 rfl (m := 25) rfl rfl (fun h => ?_)
 rw [qey] at hF
 refine zSR (zp1 rfl (zNSSR (zp3 rfl (qb ?_))))
 obtain ⟨KF1, hKF1, o2, hF, hK2⟩ := bindE hF
 refine qdS (fun e w' => KF1 () = some r ∧ e = [(0, .slice p1 x.length k1)] ∧ SH w w' []) ?_ ?_
 ·refine qp rfl hF ?_ ?_ <;> intro hF
  ·refine qx ?_
   cases hF
  refine qdQ ?_
  obtain rfl := qh hF
  exact qw [(0, _)] ⟨rfl, trivial⟩ ⟨hK2, rfl, h⟩
 rintro e2 w2 ⟨hF, rfl, h⟩
 subst hKF1
 refine zSR (zp1 rfl ?_)
 obtain ⟨y1, hy1, hF⟩ := qd hF
 have he1 := qg hy1
 obtain ⟨b1, o_1, q1, cs2, hp1, hq1, -, hr1, hc1⟩ := s1.at hy1
 obtain rfl := hr1
 refine zxe hp1 hq1 he1 rfl (zc 0 (hc1.below h.below) rfl (zp1 rfl (zNSSR (zp1 rfl (qb ?_)))))
 obtain ⟨o1, hF, hK1⟩ := qd hF
 refine qy (qW [(0, _), (3, _), (4, _)] ⟨rfl, rfl, rfl, trivial⟩ ?_)
 refine qI (fun m e w' => ∃ (i1 : Int) (i2 : Int), qbD x m i1 i2 = some o1 ∧ e = [(0, .slice p1 x.length k1), (3, .int .i64 i1), (4, .int .i64 i2)] ∧ SH w w' []) n ⟨_, _, hF, rfl, h⟩ ?_
 rintro m1 e1 w1 ⟨i1, i2, hF, rfl, h⟩
 rcases m1 with _ | m1
 ·rw [qbD] at hF
  cases hF
 rw [qbD] at hF
 refine zSSR (zp4 rfl (qb ?_))
 refine qp rfl hF ?_ ?_ <;> intro hF
 ·refine zKSBR (zp3 rfl ?_)
  obtain ⟨y2, hy2, hF⟩ := qd hF
  have he2 := qg hy2
  obtain ⟨b2, o_2, q2, cs3, hp2, hq2, -, hr2, hc3⟩ := s1.at hy2
  obtain rfl := hr2
  exact zxe hp2 hq2 he2 rfl (zc 0 (hc3.below h.below) rfl (zp2 rfl (zNER (zp3 rfl (qb (qz m1 [(0, _), (3, _), (4, _)] (Nat.lt_succ_self m1) ⟨rfl, rfl, rfl, trivial⟩ ⟨_, _, hF, rfl, h⟩))))))
 refine qG rfl ?_
 obtain rfl := qh hF; replace hF := hK1
 exact zSR (zp2 rfl (qb (qar qc h hF ⟨rfl, trivial⟩)))

def qeH (n : Nat) (t : qH) (v0 : Bool) : Option Bool :=
 (qgy n t).bind fun r1 =>
 bif (!r1) then
  some true
 else
  bif v0 then
   (qey n t.Values).bind fun r2 =>
   some (decide (r2 < 0))
  else
   some false

theorem qjE {n : Nat} {w : World} {t : qH} {v0 : Bool} {cs1 : List Value} (ha1 : GoT.R w (old w) t cs1) {p4 : Option Addr} (ha2 : GoT.R w (old w) (some v0) [.pointer p4]) {r : Bool} (hF : qeH n t v0 = some r) : RetV Tryz.prog 255 [GoT.v qH cs1, .pointer p4] w r := by
 obtain ⟨p1, k1, p2, k2, p3, k3, rfl, s1, s2, s3⟩ := qbB ha1
 obtain ⟨b1, o_1, cs2, rfl, -, hr1, hc1⟩ := PtR.get ha2 rfl
 obtain rfl := hr1
 refine qf Tryz.func255 rfl (m := 16) rfl rfl (fun h => ?_)
 rw [qeH] at hF
 refine zSR (qS h rfl rfl ?_)
 intro w1 bb1 h
 refine zp1 rfl (zNSR (zl 0 0 h rfl ?_))
 obtain ⟨r1, hr2, hF⟩ := qd hF
 refine qm r1 h call256 (qkW (h.old ha1) hr2) rfl rfl rfl rfl ?_
 intro w2 h
 refine zp2 rfl ?_
 by_cases hc2 : (!r1) = true
 ·replace hF := bifT hc2 hF
  exact qC hc2 (t := 7) rfl (zn5 rfl (zn2 rfl (zp2 rfl (qb (qt qc h hF ⟨rfl, trivial⟩)))))
 replace hc2 := zb hc2
 replace hF := bifF hc2 hF
 refine qB hc2 (t := 7) rfl (qa rfl (zc 0 (hc1.below h.below) rfl (qa rfl (zp1 rfl ?_))))
 by_cases hc3 : v0 = true
 ·replace hF := bifT hc3 hF
  refine qC hc3 (t := 9) rfl (qa rfl (zp1 rfl (qa rfl (zl 0 2 h rfl (qa rfl ?_)))))
  obtain ⟨r2, hr3, hF⟩ := qd hF
  refine qP r2 h call257 (qjH ⟨_, _, rfl, (h.oldS s3)⟩ hr3) rfl rfl rfl rfl ?_
  intro w3 h
  exact qa rfl (zp1 rfl (qa rfl (zp3 rfl (qb (qt qc h hF ⟨rfl, trivial⟩)))))
 replace hc3 := zb hc3
 replace hF := bifF hc3 hF
 exact qB hc3 (t := 9) rfl (zn4 rfl (qa rfl (zp3 rfl (qb (qt qc h hF ⟨rfl, trivial⟩)))))

def qN (s : (List qH)) (f_0 : Bool) : Nat → Int → Option (Flow Int Int)
 | 0, _ => none
 | n + 1, i1 =>
  bif decide (i1 < (s.length : Int)) then
   (idx s i1).bind fun y1 =>
   (qeH n y1 f_0).bind fun r1 =>
   bif r1 then
    some (.ret i1)
   else
    qN s f_0 n (W64 (i1 + 1))
  else
   some (.nxt i1)

def qah (n : Nat) (s : (List qH)) (f_0 : Bool) : Option Int :=
 (qN s f_0 n 0).bind fun o => match o with
 | .ret r => some r
 | .nxt _ =>
  some (-1)

theorem qek {n : Nat} {w : World} {s : (List qH)} {f_0 : Bool} {cs1 : List Value} (ha1 : GoT.R w (old w) s cs1) {p2 : Option Addr} (ha2 : GoT.R w (old w) (some f_0) [.pointer p2]) {r : Int} (hF : qah n s f_0 = some r) : RetV Tryz.prog 264 [GoT.v (List qH) cs1, .func (.func 255) #[] #[.pointer p2]] w r := by
 obtain ⟨p1, k1, rfl, s1⟩ := ha1
 obtain ⟨b1, o_1, cs2, rfl, -, hr1, hc1⟩ := PtR.get ha2 rfl
 obtain rfl := hr1
 refine qf Tryz.func264 rfl (m := 19) rfl rfl (fun h => ?_)
 rw [qah] at hF
 refine zSR (zp1 rfl (zNSSR (zp3 rfl (qb ?_))))
 obtain ⟨o1, hF, hK1⟩ := qd hF
 refine qy (qW [(0, _), (1, _), (7, _), (8, _)] ⟨rfl, rfl, rfl, rfl, trivial⟩ ?_)
 refine qI (fun m e w' => ∃ (i1 : Int), qN s f_0 m i1 = some o1 ∧ e = [(0, .slice p1 s.length k1), (1, .func (.func 255) #[] #[.pointer (some ⟨b1, o_1, none⟩)]), (7, .int .i64 (s.length : Int)), (8, .int .i64 i1)] ∧ SH w w' []) n ⟨_, hF, rfl, h⟩ ?_
 rintro m1 e1 w1 ⟨i1, hF, rfl, h⟩
 rcases m1 with _ | m1
 ·rw [qN] at hF
  cases hF
 rw [qN] at hF
 refine zSR (zp1 rfl (zNS ?_))
 refine qp rfl hF ?_ ?_ <;> intro hF
 ·refine zKSBSR (zp2 rfl (zNSR (zp2 rfl ?_)))
  refine zp1 rfl ?_
  obtain ⟨y1, hy1, hF⟩ := qd hF
  have he1 := qg hy1
  obtain ⟨b2, o_2, q1, cs3, hp1, hq1, -, hr2, hc3⟩ := s1.at hy1
  obtain ⟨p3, k2, p4, k3, p5, k4, rfl, s2, s3, s4⟩ := qbB hr2
  refine zxe hp1 hq1 he1 rfl (zc 0 (hc3.below h.below) rfl ?_)
  obtain ⟨r1, hr3, hF⟩ := qd hF
  refine qm r1 h call255 (qjE (qg6 y1 (h.oldS s2) (h.oldS s3) (h.oldS s4)) (h.old ha2) hr3) rfl rfl rfl rfl ?_
  intro w2 h
  refine qb ?_
  refine qp rfl hF ?_ ?_ <;> intro hF
  ·refine zSR (zp2 rfl (qb ?_))
   obtain rfl := qh hF; replace hF := hK1
   exact qar qc h hF ⟨rfl, trivial⟩
  exact zKER (zp2 rfl (qb (qz m1 [(0, _), (1, _), (7, _), (8, _)] (Nat.lt_succ_self m1) ⟨rfl, rfl, rfl, rfl, trivial⟩ ⟨_, hF, rfl, h⟩)))
 refine qG rfl ?_
 obtain rfl := qh hF; replace hF := hK1
 exact zSR (zp1 rfl (qb (qar qc h hF ⟨rfl, trivial⟩)))

def qaw (n : Nat) (s : (List qH)) (f_0 : Bool) : Option Bool :=
 (qah n s f_0).bind fun r1 =>
 some (decide (r1 ≥ 0))

theorem qd3 {n : Nat} {w : World} {s : (List qH)} {f_0 : Bool} {cs1 : List Value} (ha1 : GoT.R w (old w) s cs1) {p2 : Option Addr} (ha2 : GoT.R w (old w) (some f_0) [.pointer p2]) {r : Bool} (hF : qaw n s f_0 = some r) : RetV Tryz.prog 254 [GoT.v (List qH) cs1, .func (.func 255) #[] #[.pointer p2]] w r := by
 obtain ⟨p1, k1, rfl, s1⟩ := ha1
 obtain ⟨b1, o_1, cs2, rfl, -, hr1, hc1⟩ := PtR.get ha2 rfl
 obtain rfl := hr1
 refine qf Tryz.func254 rfl (m := 9) rfl rfl (fun h => ?_)
 rw [qaw] at hF
 refine zSR (zp1 rfl (zNSR (zp2 rfl ?_)))
 obtain ⟨r1, hr2, hF⟩ := qd hF
 refine qP r1 h call264 (qek ⟨_, _, rfl, (h.oldS s1)⟩ (h.old ha2) hr2) rfl rfl rfl rfl ?_
 intro w1 h
 exact zp2 rfl (qb (qt qc h hF ⟨rfl, trivial⟩))

def qdO (n : Nat) (list : (List qH)) (positive : Bool) : Option Bool :=
 bif ((list.length : Int) == 2) then
  (qaw n list positive).bind fun r1 =>
  some (!r1)
 else
  some false

theorem qgm {n : Nat} {w : World} {list : (List qH)} {positive : Bool} {cs1 : List Value} (ha1 : GoT.R w (old w) list cs1) {r : Bool} (hF : qdO n list positive = some r) : RetV Tryz.prog 244 [GoT.v (List qH) cs1, .bool positive] w r := by
 obtain ⟨p1, k1, rfl, s1⟩ := ha1
 refine qf Tryz.func244 rfl (m := 14) rfl rfl (fun h => ?_)
 rw [qdO] at hF
 refine zSR (qS h rfl rfl ?_)
 intro w1 bb1 h
 refine zp1 rfl (zNSR (zp4 rfl ?_))
 by_cases hc1 : ((list.length : Int) == 2) = true
 ·replace hF := bifT hc1 hF
  refine qC hc1 (t := 8) rfl (qa rfl (zp1 rfl (qa rfl (zp1 rfl (qa rfl ?_)))))
  obtain ⟨r1, hr1, hF⟩ := qd hF
  refine qm r1 h call254 (qd3 ⟨_, _, rfl, (h.oldS s1)⟩ (qhZ (x := positive) 0 h rfl rfl) hr1) rfl rfl rfl rfl ?_
  intro w2 h
  exact qa rfl (zp3 rfl (qb (qt qc h hF ⟨rfl, trivial⟩)))
 replace hc1 := zb hc1
 replace hF := bifF hc1 hF
 exact qB hc1 (t := 8) rfl (zn4 rfl (zp2 rfl (qb (qt qc h hF ⟨rfl, trivial⟩))))

def qfc (_ : Nat) (p : qas) : Option Bool :=
 some p.Clock

theorem qi2 {n : Nat} {w : World} {p : qas} {cs1 : List Value} (ha1 : GoT.R w (old w) p cs1) {r : Bool} (hF : qfc n p = some r) : RetV Tryz.prog 259 [GoT.v qas cs1] w r := by
 obtain rfl := qbx ha1
 refine qf Tryz.func259 rfl (m := 5) rfl rfl (fun h => ?_)
 rw [qfc] at hF
 refine zSR (qS h rfl rfl ?_)
 intro w1 bb1 h
 exact zp1 rfl (zNSR (zp1 rfl (zl 0 3 h rfl (zp1 rfl (qb (qt qc h hF ⟨rfl, trivial⟩))))))

def qO (s : (List qas)) : Nat → Int → Option (Flow Int Int)
 | 0, _ => none
 | n + 1, i1 =>
  bif decide (i1 < (s.length : Int)) then
   (idx s i1).bind fun y1 =>
   (qfc n y1).bind fun r1 =>
   bif r1 then
    some (.ret i1)
   else
    qO s n (W64 (i1 + 1))
  else
   some (.nxt i1)

def qaO (n : Nat) (s : (List qas)) : Option Int :=
 (qO s n 0).bind fun o => match o with
 | .ret r => some r
 | .nxt _ =>
  some (-1)

theorem qeu {n : Nat} {w : World} {s : (List qas)} {cs1 : List Value} (ha1 : GoT.R w (old w) s cs1) {r : Int} (hF : qaO n s = some r) : RetV Tryz.prog 258 [GoT.v (List qas) cs1, .func (.func 259) #[] #[]] w r := by
 obtain ⟨p1, k1, rfl, s1⟩ := ha1
 refine qf Tryz.func258 rfl (m := 19) rfl rfl (fun h => ?_)
 rw [qaO] at hF
 refine zSR (zp1 rfl (zNSSR (zp3 rfl (qb ?_))))
 obtain ⟨o1, hF, hK1⟩ := qd hF
 refine qy (qW [(0, _), (1, _), (7, _), (8, _)] ⟨rfl, rfl, rfl, rfl, trivial⟩ ?_)
 refine qI (fun m e w' => ∃ (i1 : Int), qO s m i1 = some o1 ∧ e = [(0, .slice p1 s.length k1), (1, .func (.func 259) #[] #[]), (7, .int .i64 (s.length : Int)), (8, .int .i64 i1)] ∧ SH w w' []) n ⟨_, hF, rfl, h⟩ ?_
 rintro m1 e1 w1 ⟨i1, hF, rfl, h⟩
 rcases m1 with _ | m1
 ·rw [qO] at hF
  cases hF
 rw [qO] at hF
 refine zSR (zp1 rfl (zNS ?_))
 refine qp rfl hF ?_ ?_ <;> intro hF
 ·refine zKSBSR (zp2 rfl (zNSR (zp2 rfl ?_)))
  refine zp1 rfl ?_
  obtain ⟨y1, hy1, hF⟩ := qd hF
  have he1 := qg hy1
  obtain ⟨b1, o_1, q1, cs2, hp1, hq1, -, hr1, hc2⟩ := s1.at hy1
  obtain rfl := qbx hr1
  refine zxe hp1 hq1 he1 rfl (zc 0 (hc2.below h.below) rfl ?_)
  obtain ⟨r1, hr2, hF⟩ := qd hF
  refine qm r1 h call259 (qi2 (qhj y1) hr2) rfl rfl rfl rfl ?_
  intro w2 h
  refine qb ?_
  refine qp rfl hF ?_ ?_ <;> intro hF
  ·refine zSR (zp2 rfl (qb ?_))
   obtain rfl := qh hF; replace hF := hK1
   exact qar qc h hF ⟨rfl, trivial⟩
  exact zKER (zp2 rfl (qb (qz m1 [(0, _), (1, _), (7, _), (8, _)] (Nat.lt_succ_self m1) ⟨rfl, rfl, rfl, rfl, trivial⟩ ⟨_, hF, rfl, h⟩)))
 refine qG rfl ?_
 obtain rfl := qh hF; replace hF := hK1
 exact zSR (zp1 rfl (qb (qar qc h hF ⟨rfl, trivial⟩)))

def qe5 (n : Nat) (c : qJ) : Option Int :=
 (qaO n c.Pins).bind fun r1 =>
 some r1

theorem qjO {n : Nat} {w : World} {c : qJ} {cs1 : List Value} (ha1 : GoT.R w (old w) c cs1) {r : Int} (hF : qe5 n c = some r) : RetV Tryz.prog 245 [GoT.v qJ cs1] w r := by
 obtain ⟨p1, k1, p2, k2, p3, k3, rfl, s1, s2, s3⟩ := qak ha1
 refine qf Tryz.func245 rfl (m := 6) rfl rfl (fun h => ?_)
 rw [qe5] at hF
 refine zSR (qS h rfl rfl ?_)
 intro w1 bb1 h
 refine zp1 rfl (zNSR (zp1 rfl (zl 0 2 h rfl ?_)))
 obtain ⟨r1, hr1, hF⟩ := qd hF
 refine qP r1 h call258 (qeu ⟨_, _, rfl, (h.oldS s1)⟩ hr1) rfl rfl rfl rfl ?_
 intro w2 h
 exact zp1 rfl (qb (qar qc h hF ⟨rfl, trivial⟩))

def qei (n : Nat) (c : qJ) (pin : Int) : Option Bool :=
 (qc1 n c).bind fun r1 =>
 (qaD n pin 0 (W64 (r1 - 1))).bind fun r2 =>
 some r2

theorem qhl {n : Nat} {w : World} {c : qJ} {pin : Int} {cs1 : List Value} (ha1 : GoT.R w (old w) c cs1) {r : Bool} (hF : qei n c pin = some r) : RetV Tryz.prog 246 [GoT.v qJ cs1, .int .i64 pin] w r := by
 obtain ⟨p1, k1, p2, k2, p3, k3, rfl, s1, s2, s3⟩ := qak ha1
 refine qf Tryz.func246 rfl (m := 10) rfl rfl (fun h => ?_)
 rw [qei] at hF
 refine zSR (qS h rfl rfl ?_)
 intro w1 bb1 h
 refine zp1 rfl (zNSR (zp1 rfl (zl 0 0 h rfl ?_)))
 obtain ⟨r1, hr1, hF⟩ := qd hF
 refine qP r1 h call163 (qfI (h.old ha1) hr1) rfl rfl rfl rfl ?_
 intro w2 h
 refine zp1 rfl ?_
 obtain ⟨r2, hr2, hF⟩ := qd hF
 refine qm r2 h call86 (qam hr2) rfl rfl rfl rfl ?_
 intro w3 h
 exact zp1 rfl (qb (qt qc h hF ⟨rfl, trivial⟩))

def qe0 (n : Nat) (a_0 : qJ) (a_1 : qag) : Option Bool :=
 (qgr n a_1.Kind).bind fun r1 =>
 bif r1 then
  (
   bif (a_1.Sense == 0) then
    bif ((a_1.Slew.length : Int) == 0) then
     (qdO n a_1.Delay false).bind fun r2 =>
     bif r2 then
      (qe5 n a_0).bind fun r3 =>
      bif (a_1.From == r3) then
       bif decide (a_1.From ≥ 0) then
        (qei n a_0 a_1.To).bind fun r4 =>
        bif r4 then
         some (a_1.To != a_1.From)
        else
         some false
       else
        some false
      else
       some false
     else
      some false
    else
     some false
   else
    some false).bind fun b1 =>
  some b1
 else
  (
   (qdO n a_1.Delay true).bind fun r6 =>
   bif (!r6) then
    some true
   else
    (qdO n a_1.Slew true).bind fun r7 =>
    bif (!r7) then
     some true
    else
     (qc1 n a_0).bind fun r8 =>
     bif (a_1.To != r8) then
      some true
     else
      (qei n a_0 a_1.From).bind fun r9 =>
      some (!r9)).bind fun b2 =>
  bif b2 then
   some false
  else
   bif (a_1.Kind == 1) then
    (idx a_0.Pins a_1.From).bind fun y1 =>
    bif (!y1.Clock) then
     (qaD n a_1.Sense 1 3).bind fun r5 =>
     some r5
    else
     some false
   else
    (
     bif (a_1.Kind == 2) then
      some (a_1.Kind == 2)
     else
      some (a_1.Kind == 3)).bind fun b4 =>
    bif b4 then
     (idx a_0.Pins a_1.From).bind fun y2 =>
     bif y2.Clock then
      some (a_1.Sense == 0)
     else
      some false
    else
     some false

theorem qjM {n : Nat} {w : World} {a_0 : qJ} {a_1 : qag} {cs1 : List Value} (ha1 : GoT.R w (old w) a_0 cs1) {cs2 : List Value} (ha2 : GoT.R w (old w) a_1 cs2) {r : Bool} (hF : qe0 n a_0 a_1 = some r) : RetV Tryz.prog 230 [GoT.v qJ cs1, GoT.v qag cs2] w r := by
 obtain ⟨p1, k1, p2, k2, p3, k3, rfl, s1, s2, s3⟩ := qak ha1
 obtain ⟨p4, k4, p5, k5, rfl, s4, s5⟩ := qaV ha2
 refine qf Tryz.func230 rfl (m := 103) rfl rfl (fun h => ?_)
 rw [qe0] at hF
 refine zSR (qS h rfl rfl ?_)
 intro w1 bb1 h
 refine qS h rfl rfl ?_
 intro w2 bb2 h
 refine zp1 rfl (zNSSR (zp1 rfl (zl 0 0 h rfl ?_)))
 obtain ⟨r1, hr1, hF⟩ := qd hF
 refine qm r1 h call243 (qk3 hr1) rfl rfl rfl rfl ?_
 intro w3 h
 refine qb ?_
 refine qp rfl hF ?_ ?_ <;> intro hF
 ·refine qbm ?_
  obtain ⟨KF1, hKF1, o1, hF, hK1⟩ := bindE hF
  refine qdS (fun e w' => ∃ (b1 : Bool), KF1 b1 = some r ∧ e = [(4, .bool b1)] ∧ SH w w' []) ?_ ?_
  ·refine qcf rfl (by kernel_rfl) ?_
   refine zd1 rfl ?_
   refine zdl 0 3 h rfl ?_
   refine zd2 rfl ?_
   by_cases hc2 : (a_1.Sense == 0) = true
   ·replace hF := bifT hc2 hF
    refine qc0 hc2 (t := 11) rfl (qi rfl (zd1 rfl (qi rfl ?_)))
    refine zdl 0 5 h rfl ?_
    refine qi rfl (zd1 rfl (qi rfl (zd3 rfl ?_)))
    by_cases hc3 : ((a_1.Slew.length : Int) == 0) = true
    ·replace hF := bifT hc3 hF
     refine qc0 hc3 (t := 17) rfl (qi rfl (zd1 rfl (qi rfl ?_)))
     refine zdl 0 4 h rfl ?_
     refine qi rfl ?_
     obtain ⟨r2, hr2, hF⟩ := qd hF
     refine qb4 r2 (vsB _) call244 (fun _ hb => qgm ⟨_, _, rfl, ((h.ext hb).oldS s4)⟩ hr2) rfl rfl rfl rfl ?_
     refine zd2 rfl ?_
     by_cases hc4 : r2 = true
     ·replace hF := bifT hc4 hF
      refine qc0 hc4 (t := 22) rfl (qi rfl (zd1 rfl (qi rfl ?_)))
      refine zdl 0 1 h rfl ?_
      refine qi rfl ?_
      refine zdl 1 0 h rfl ?_
      refine qi rfl ?_
      obtain ⟨r3, hr3, hF⟩ := qd hF
      refine qb4 r3 (vsI _) call245 (fun _ hb => qjO ((h.ext hb).old ha1) hr3) rfl rfl rfl rfl ?_
      refine qi rfl (zd3 rfl ?_)
      by_cases hc5 : (a_1.From == r3) = true
      ·replace hF := bifT hc5 hF
       refine qc0 hc5 (t := 29) rfl (qi rfl (zd1 rfl (qi rfl ?_)))
       refine zdl 0 1 h rfl ?_
       refine qi rfl (zd3 rfl ?_)
       by_cases hc6 : (decide (a_1.From ≥ 0)) = true
       ·replace hF := bifT hc6 hF
        refine qc0 hc6 (t := 34) rfl (qi rfl ?_)
        refine zdl 1 0 h rfl ?_
        refine qi rfl (zd1 rfl (qi rfl ?_))
        refine zdl 0 2 h rfl ?_
        refine qi rfl ?_
        obtain ⟨r4, hr4, hF⟩ := qd hF
        refine qb4 r4 (vsB _) call246 (fun _ hb => qhl ((h.ext hb).old ha1) hr4) rfl rfl rfl rfl ?_
        refine zd2 rfl ?_
        by_cases hc7 : r4 = true
        ·replace hF := bifT hc7 hF
         refine qc0 hc7 (t := 40) rfl (qi rfl (zd1 rfl (qi rfl ?_)))
         refine zdl 0 2 h rfl ?_
         refine qi rfl (zd1 rfl (qi rfl ?_))
         refine zdl 0 1 h rfl ?_
         refine qi rfl (zd3 rfl ?_)
         refine qbc (fun w4 hb => ?_)
         replace h := h.ext hb
         clear hb
         replace h := h.pick [] rfl
         obtain rfl := qh hF
         exact qw [(4, _)] ⟨rfl, trivial⟩ ⟨_, hK1, rfl, h⟩
        replace hc7 := zb hc7
        replace hF := bifF hc7 hF
        refine qc7 hc7 (t := 40) rfl (qj rfl rfl rfl (qj rfl rfl rfl (qj rfl rfl rfl (qj rfl rfl rfl (qj rfl rfl rfl (zd2 rfl ?_))))))
        refine qbc (fun w5 hb => ?_)
        replace h := h.ext hb
        clear hb
        replace h := h.pick [] rfl
        obtain rfl := qh hF
        exact qw [(4, _)] ⟨rfl, trivial⟩ ⟨_, hK1, rfl, h⟩
       replace hc6 := zb hc6
       replace hF := bifF hc6 hF
       refine qc7 hc6 (t := 34) rfl (qj rfl rfl rfl (qj rfl rfl rfl (qj rfl rfl rfl (qj rfl rfl rfl (zd2 rfl (qj rfl rfl rfl (qj rfl rfl rfl (qj rfl rfl rfl (qj rfl rfl rfl (qj rfl rfl rfl ?_))))))))))
       refine zd2 rfl ?_
       refine qbc (fun w6 hb => ?_)
       replace h := h.ext hb
       clear hb
       replace h := h.pick [] rfl
       obtain rfl := qh hF
       exact qw [(4, _)] ⟨rfl, trivial⟩ ⟨_, hK1, rfl, h⟩
      replace hc5 := zb hc5
      replace hF := bifF hc5 hF
      refine qc7 hc5 (t := 29) rfl (qj rfl rfl rfl (qj rfl rfl rfl (qj rfl rfl rfl (zd2 rfl (qj rfl rfl rfl (qj rfl rfl rfl (qj rfl rfl rfl (qj rfl rfl rfl (zd2 rfl ?_)))))))))
      refine qj rfl rfl rfl (qj rfl rfl rfl (qj rfl rfl rfl (qj rfl rfl rfl (qj rfl rfl rfl (zd2 rfl ?_)))))
      refine qbc (fun w7 hb => ?_)
      replace h := h.ext hb
      clear hb
      replace h := h.pick [] rfl
      obtain rfl := qh hF
      exact qw [(4, _)] ⟨rfl, trivial⟩ ⟨_, hK1, rfl, h⟩
     replace hc4 := zb hc4
     replace hF := bifF hc4 hF
     refine qc7 hc4 (t := 22) rfl (qj rfl rfl rfl (qj rfl rfl rfl (qj rfl rfl rfl (qj rfl rfl rfl (qj rfl rfl rfl (zd2 rfl (qj rfl rfl rfl (qj rfl rfl rfl (qj rfl rfl rfl (zd1 rfl ?_))))))))))
     refine zd1 rfl (qj rfl rfl rfl (qj rfl rfl rfl (qj rfl rfl rfl (qj rfl rfl rfl (zd2 rfl (qj rfl rfl rfl (qj rfl rfl rfl (qj rfl rfl rfl (qj rfl rfl rfl (qj rfl rfl rfl ?_))))))))))
     refine zd2 rfl ?_
     refine qbc (fun w8 hb => ?_)
     replace h := h.ext hb
     clear hb
     replace h := h.pick [] rfl
     obtain rfl := qh hF
     exact qw [(4, _)] ⟨rfl, trivial⟩ ⟨_, hK1, rfl, h⟩
    replace hc3 := zb hc3
    replace hF := bifF hc3 hF
    refine qc7 hc3 (t := 17) rfl (qj rfl rfl rfl (qj rfl rfl rfl (qj rfl rfl rfl (zd2 rfl (qj rfl rfl rfl (qj rfl rfl rfl (qj rfl rfl rfl (qj rfl rfl rfl (qj rfl rfl rfl (zd1 rfl ?_))))))))))
    refine zd1 rfl (qj rfl rfl rfl (qj rfl rfl rfl (qj rfl rfl rfl (zd2 rfl (qj rfl rfl rfl (qj rfl rfl rfl (qj rfl rfl rfl (qj rfl rfl rfl (zd2 rfl ?_)))))))))
    refine qj rfl rfl rfl (qj rfl rfl rfl (qj rfl rfl rfl (qj rfl rfl rfl (qj rfl rfl rfl (zd2 rfl ?_)))))
    refine qbc (fun w9 hb => ?_)
    replace h := h.ext hb
    clear hb
    replace h := h.pick [] rfl
    obtain rfl := qh hF
    exact qw [(4, _)] ⟨rfl, trivial⟩ ⟨_, hK1, rfl, h⟩
   replace hc2 := zb hc2
   replace hF := bifF hc2 hF
   refine qc7 hc2 (t := 11) rfl (qj rfl rfl rfl (qj rfl rfl rfl (qj rfl rfl rfl (qj rfl rfl rfl (zd2 rfl (qj rfl rfl rfl (qj rfl rfl rfl (qj rfl rfl rfl (zd2 rfl ?_)))))))))
   refine qj rfl rfl rfl (qj rfl rfl rfl (qj rfl rfl rfl (qj rfl rfl rfl (qj rfl rfl rfl (zd2 rfl (qj rfl rfl rfl (qj rfl rfl rfl (qj rfl rfl rfl (zd2 rfl ?_)))))))))
   refine qj rfl rfl rfl (qj rfl rfl rfl (qj rfl rfl rfl (qj rfl rfl rfl (zd2 rfl (qj rfl rfl rfl (qj rfl rfl rfl (qj rfl rfl rfl (qj rfl rfl rfl (qj rfl rfl rfl (zd1 rfl ?_))))))))))
   refine zd1 rfl ?_
   refine qbc (fun w10 hb => ?_)
   replace h := h.ext hb
   clear hb
   replace h := h.pick [] rfl
   obtain rfl := qh hF
   exact qw [(4, _)] ⟨rfl, trivial⟩ ⟨_, hK1, rfl, h⟩
  rintro e1 w11 ⟨b1, hF, rfl, h⟩
  subst hKF1
  exact qt qc h hF ⟨rfl, trivial⟩
 refine zKSS ?_
 obtain ⟨KF3, hKF3, o3, hF, hK3⟩ := bindE hF
 refine qdS (fun e w' => ∃ (b2 : Bool), KF3 b2 = some r ∧ e = [(2, .pointer (some ⟨bb1, 0, none⟩)), (3, .pointer (some ⟨bb2, 0, none⟩)), (70, .bool b2)] ∧ SH w w' [Ch.box bb2 [.int .i64 a_1.Kind, .int .i64 a_1.From, .int .i64 a_1.To, .int .i64 a_1.Sense, .slice p4 a_1.Delay.length k4, .slice p5 a_1.Slew.length k5] 211, Ch.box bb1 [.string a_0.Name, .int .i64 a_0.Kind, .slice p1 a_0.Pins.length k1, .slice p2 a_0.Arcs.length k2, .slice p3 a_0.Truth.length k3, .int .i64 a_0.Leak, .int .i64 a_0.Energy] 183]) ?_ ?_
 ·refine qcf rfl (by kernel_rfl) ?_
  refine zd1 rfl ?_
  refine zdl 0 4 h rfl ?_
  obtain ⟨r6, hr8, hF⟩ := qd hF
  refine qb4 r6 (vsB _) call244 (fun _ hb => qgm ⟨_, _, rfl, ((h.ext hb).oldS s4)⟩ hr8) rfl rfl rfl rfl ?_
  refine zd2 rfl ?_
  by_cases hc16 : (!r6) = true
  ·replace hF := bifT hc16 hF
   refine qc0 hc16 (t := 51) rfl (qj rfl rfl rfl (qj rfl rfl rfl (qj rfl rfl rfl (qj rfl rfl rfl (zd2 rfl (qj rfl rfl rfl (qj rfl rfl rfl (qj rfl rfl rfl (qj rfl rfl rfl (qj rfl rfl rfl ?_))))))))))
   refine zd2 rfl (qj rfl rfl rfl (qj rfl rfl rfl (qj rfl rfl rfl (qj rfl rfl rfl (qj rfl rfl rfl (zd1 rfl ?_))))))
   refine qbc (fun w14 hb => ?_)
   replace h := h.ext hb
   clear hb
   obtain rfl := qh hF
   exact qw [(2, _), (3, _), (70, _)] ⟨rfl, rfl, rfl, trivial⟩ ⟨_, hK3, rfl, h⟩
  replace hc16 := zb hc16
  replace hF := bifF hc16 hF
  refine qc7 hc16 (t := 51) rfl (qi rfl (zd1 rfl (qi rfl ?_)))
  refine zdl 0 5 h rfl ?_
  refine qi rfl ?_
  obtain ⟨r7, hr9, hF⟩ := qd hF
  refine qb4 r7 (vsB _) call244 (fun _ hb => qgm ⟨_, _, rfl, ((h.ext hb).oldS s5)⟩ hr9) rfl rfl rfl rfl ?_
  refine qi rfl (zd3 rfl ?_)
  by_cases hc17 : (!r7) = true
  ·replace hF := bifT hc17 hF
   refine qc0 hc17 (t := 57) rfl (qj rfl rfl rfl (qj rfl rfl rfl (qj rfl rfl rfl (qj rfl rfl rfl (qj rfl rfl rfl (zd2 rfl (qj rfl rfl rfl (qj rfl rfl rfl (qj rfl rfl rfl (qj rfl rfl rfl ?_))))))))))
   refine qj rfl rfl rfl (zd1 rfl ?_)
   refine qbc (fun w15 hb => ?_)
   replace h := h.ext hb
   clear hb
   obtain rfl := qh hF
   exact qw [(2, _), (3, _), (70, _)] ⟨rfl, rfl, rfl, trivial⟩ ⟨_, hK3, rfl, h⟩
  replace hc17 := zb hc17
  replace hF := bifF hc17 hF
  refine qc7 hc17 (t := 57) rfl (qi rfl (zd1 rfl (qi rfl ?_)))
  refine zdl 0 2 h rfl ?_
  refine qi rfl ?_
  refine zdl 1 0 h rfl ?_
  refine qi rfl ?_
  obtain ⟨r8, hr10, hF⟩ := qd hF
  refine qb4 r8 (vsI _) call163 (fun _ hb => qfI ((h.ext hb).old ha1) hr10) rfl rfl rfl rfl ?_
  refine qi rfl (zd3 rfl ?_)
  by_cases hc18 : (a_1.To != r8) = true
  ·replace hF := bifT hc18 hF
   refine qc0 hc18 (t := 64) rfl (qj rfl rfl rfl (qj rfl rfl rfl (qj rfl rfl rfl (qj rfl rfl rfl (qj rfl rfl rfl (zd1 rfl ?_))))))
   refine qbc (fun w16 hb => ?_)
   replace h := h.ext hb
   clear hb
   obtain rfl := qh hF
   exact qw [(2, _), (3, _), (70, _)] ⟨rfl, rfl, rfl, trivial⟩ ⟨_, hK3, rfl, h⟩
  replace hc18 := zb hc18
  replace hF := bifF hc18 hF
  refine qc7 hc18 (t := 64) rfl (qi rfl ?_)
  refine zdl 1 0 h rfl ?_
  refine qi rfl (zd1 rfl (qi rfl ?_))
  refine zdl 0 1 h rfl ?_
  refine qi rfl ?_
  obtain ⟨r9, hr11, hF⟩ := qd hF
  refine qb4 r9 (vsB _) call246 (fun _ hb => qhl ((h.ext hb).old ha1) hr11) rfl rfl rfl rfl ?_
  refine qi rfl (zd2 rfl ?_)
  refine qbc (fun w17 hb => ?_)
  replace h := h.ext hb
  clear hb
  obtain rfl := qh hF
  exact qw [(2, _), (3, _), (70, _)] ⟨rfl, rfl, rfl, trivial⟩ ⟨_, hK3, rfl, h⟩
 rintro e3 w18 ⟨b2, hF, rfl, h⟩
 subst hKF3
 refine qp rfl hF ?_ ?_ <;> intro hF
 ·exact zSR (zp1 rfl (qb (qt qc h hF ⟨rfl, trivial⟩)))
 refine zKSSR (zp1 rfl (zl 0 0 h rfl (qb (zBSR (zp2 rfl ?_)))))
 refine qb ?_
 refine qp rfl hF ?_ ?_ <;> intro hF
 ·refine zSR (zp1 rfl (zl 1 2 h rfl (zp1 rfl (zl 0 1 h rfl ?_))))
  obtain ⟨y1, hy1, hF⟩ := qd hF
  have he1 := qg hy1
  obtain ⟨b3, o_1, q1, cs3, hp1, hq1, -, hr5, hc10⟩ := s1.at hy1
  obtain rfl := qbx hr5
  refine zxe hp1 hq1 he1 rfl (zp1 rfl (zc 3 (hc10.below h.below) rfl (zp2 rfl ?_)))
  by_cases hc11 : (!y1.Clock) = true
  ·replace hF := bifT hc11 hF
   refine qC hc11 (t := 83) rfl (qa rfl (zp1 rfl (qa rfl (zl 0 3 h rfl (qa rfl ?_)))))
   obtain ⟨r5, hr6, hF⟩ := qd hF
   refine qm r5 h call86 (qam hr6) rfl rfl rfl rfl ?_
   intro w12 h
   exact zp2 rfl (qb (qt qc h hF ⟨rfl, trivial⟩))
  replace hc11 := zb hc11
  replace hF := bifF hc11 hF
  exact qB hc11 (t := 83) rfl (zn3 rfl (zp2 rfl (qb (qt qc h hF ⟨rfl, trivial⟩))))
 refine zSSR (zp2 rfl (qb ?_))
 obtain ⟨KF2, hKF2, o2, hF, hK2⟩ := bindE hF
 refine qdS (fun e w' => ∃ (b4 : Bool), KF2 b4 = some r ∧ e = [(2, .pointer (some ⟨bb1, 0, none⟩)), (3, .pointer (some ⟨bb2, 0, none⟩)), (88, .bool b4)] ∧ SH w w' [Ch.box bb2 [.int .i64 a_1.Kind, .int .i64 a_1.From, .int .i64 a_1.To, .int .i64 a_1.Sense, .slice p4 a_1.Delay.length k4, .slice p5 a_1.Slew.length k5] 211, Ch.box bb1 [.string a_0.Name, .int .i64 a_0.Kind, .slice p1 a_0.Pins.length k1, .slice p2 a_0.Arcs.length k2, .slice p3 a_0.Truth.length k3, .int .i64 a_0.Leak, .int .i64 a_0.Energy] 183]) ?_ ?_
 ·refine qp rfl hF ?_ ?_ <;> intro hF
  ·refine qdQ ?_
   obtain rfl := qh hF
   exact qw [(2, _), (3, _), (88, _)] ⟨rfl, rfl, rfl, trivial⟩ ⟨_, hK2, rfl, h⟩
  refine qx (zp2 rfl (qb ?_))
  obtain rfl := qh hF
  exact qw [(2, _), (3, _), (88, _)] ⟨rfl, rfl, rfl, trivial⟩ ⟨_, hK2, rfl, h⟩
 rintro e2 w13 ⟨b4, hF, rfl, h⟩
 subst hKF2
 refine qp rfl hF ?_ ?_ <;> intro hF
 ·refine zSR (zp1 rfl (zl 1 2 h rfl (zp1 rfl (zl 0 1 h rfl ?_))))
  obtain ⟨y2, hy2, hF⟩ := qd hF
  have he2 := qg hy2
  obtain ⟨b5, o_2, q2, cs4, hp2, hq2, -, hr7, hc13⟩ := s1.at hy2
  obtain rfl := qbx hr7
  refine zxe hp2 hq2 he2 rfl (zp1 rfl (zc 3 (hc13.below h.below) rfl (zp1 rfl ?_)))
  by_cases hc14 : y2.Clock = true
  ·replace hF := bifT hc14 hF
   exact qC hc14 (t := 98) rfl (qa rfl (zp1 rfl (qa rfl (zl 0 3 h rfl (qa rfl (zp3 rfl (qb (qt qc h hF ⟨rfl, trivial⟩))))))))
  replace hc14 := zb hc14
  replace hF := bifF hc14 hF
  exact qB hc14 (t := 98) rfl (zn3 rfl (zp2 rfl (qb (qt qc h hF ⟨rfl, trivial⟩))))
 exact zKE (zSR (zp1 rfl (qb (qt qc h hF ⟨rfl, trivial⟩))))

def qdA (_ : Nat) (a_o : qag) (v0 : qag) : Option Bool :=
 bif (a_o.Kind == v0.Kind) then
  bif (a_o.From == v0.From) then
   some (a_o.To == v0.To)
  else
   some false
 else
  some false

theorem qix {n : Nat} {w : World} {a_o : qag} {v0 : qag} {cs1 : List Value} (ha1 : GoT.R w (old w) a_o cs1) {p3 : Option Addr} (ha2 : GoT.R w (old w) (some v0) [.pointer p3]) {r : Bool} (hF : qdA n a_o v0 = some r) : RetV Tryz.prog 231 [GoT.v qag cs1, .pointer p3] w r := by
 obtain ⟨p1, k1, p2, k2, rfl, s1, s2⟩ := qaV ha1
 obtain ⟨b1, o_1, cs2, rfl, -, hr1, hc1⟩ := PtR.get ha2 rfl
 obtain ⟨p4, k3, p5, k4, rfl, s3, s4⟩ := qaV hr1
 refine qf Tryz.func231 rfl (m := 23) rfl rfl (fun h => ?_)
 rw [qdA] at hF
 refine zSR (qS h rfl rfl ?_)
 intro w1 bb1 h
 refine zp1 rfl (zNSR (zp1 rfl (zl 0 0 h rfl (zp1 rfl (zc 0 (hc1.below h.below) rfl (zp2 rfl ?_))))))
 by_cases hc2 : (a_o.Kind == v0.Kind) = true
 ·replace hF := bifT hc2 hF
  refine qC hc2 (t := 9) rfl (qa rfl (zp1 rfl (qa rfl (zl 0 1 h rfl (qa rfl (zp1 rfl (qa rfl (zc 1 (hc1.below h.below) rfl (qa rfl (zp2 rfl ?_))))))))))
  refine zp1 rfl ?_
  by_cases hc3 : (a_o.From == v0.From) = true
  ·replace hF := bifT hc3 hF
   refine qC hc3 (t := 16) rfl (qa rfl (zp1 rfl (qa rfl (zl 0 2 h rfl (qa rfl (zp1 rfl (qa rfl (zc 2 (hc1.below h.below) rfl (qa rfl (zp2 rfl ?_))))))))))
   exact zp1 rfl (qb (qt qc h hF ⟨rfl, trivial⟩))
  replace hc3 := zb hc3
  replace hF := bifF hc3 hF
  exact qB hc3 (t := 16) rfl (zn5 rfl (zp2 rfl (qb (qt qc h hF ⟨rfl, trivial⟩))))
 replace hc2 := zb hc2
 replace hF := bifF hc2 hF
 refine qB hc2 (t := 9) rfl (zn5 rfl (zp2 rfl (zn4 rfl ?_)))
 exact zn1 rfl (zp2 rfl (qb (qt qc h hF ⟨rfl, trivial⟩)))

def qM (s : (List qag)) (f_0 : qag) : Nat → Int → Option (Flow Int Int)
 | 0, _ => none
 | n + 1, i1 =>
  bif decide (i1 < (s.length : Int)) then
   (idx s i1).bind fun y1 =>
   (qdA n y1 f_0).bind fun r1 =>
   bif r1 then
    some (.ret i1)
   else
    qM s f_0 n (W64 (i1 + 1))
  else
   some (.nxt i1)

def qaF (n : Nat) (s : (List qag)) (f_0 : qag) : Option Int :=
 (qM s f_0 n 0).bind fun o => match o with
 | .ret r => some r
 | .nxt _ =>
  some (-1)

theorem qd8 {n : Nat} {w : World} {s : (List qag)} {f_0 : qag} {cs1 : List Value} (ha1 : GoT.R w (old w) s cs1) {p2 : Option Addr} (ha2 : GoT.R w (old w) (some f_0) [.pointer p2]) {r : Int} (hF : qaF n s f_0 = some r) : RetV Tryz.prog 191 [GoT.v (List qag) cs1, .func (.func 231) #[] #[.pointer p2]] w r := by
 obtain ⟨p1, k1, rfl, s1⟩ := ha1
 obtain ⟨b1, o_1, cs2, rfl, -, hr1, hc1⟩ := PtR.get ha2 rfl
 obtain ⟨p3, k2, p4, k3, rfl, s2, s3⟩ := qaV hr1
 refine qf Tryz.func191 rfl (m := 19) rfl rfl (fun h => ?_)
 rw [qaF] at hF
 refine zSR (zp1 rfl (zNSSR (zp3 rfl (qb ?_))))
 obtain ⟨o1, hF, hK1⟩ := qd hF
 refine qy (qW [(0, _), (1, _), (7, _), (8, _)] ⟨rfl, rfl, rfl, rfl, trivial⟩ ?_)
 refine qI (fun m e w' => ∃ (i1 : Int), qM s f_0 m i1 = some o1 ∧ e = [(0, .slice p1 s.length k1), (1, .func (.func 231) #[] #[.pointer (some ⟨b1, o_1, none⟩)]), (7, .int .i64 (s.length : Int)), (8, .int .i64 i1)] ∧ SH w w' []) n ⟨_, hF, rfl, h⟩ ?_
 rintro m1 e1 w1 ⟨i1, hF, rfl, h⟩
 rcases m1 with _ | m1
 ·rw [qM] at hF
  cases hF
 rw [qM] at hF
 refine zSR (zp1 rfl (zNS ?_))
 refine qp rfl hF ?_ ?_ <;> intro hF
 ·refine zKSBSR (zp2 rfl (zNSR (zp2 rfl ?_)))
  refine zp1 rfl ?_
  obtain ⟨y1, hy1, hF⟩ := qd hF
  have he1 := qg hy1
  obtain ⟨b2, o_2, q1, cs3, hp1, hq1, -, hr2, hc3⟩ := s1.at hy1
  obtain ⟨p5, k4, p6, k5, rfl, s4, s5⟩ := qaV hr2
  refine zxe hp1 hq1 he1 rfl (zc 0 (hc3.below h.below) rfl ?_)
  obtain ⟨r1, hr3, hF⟩ := qd hF
  refine qm r1 h call231 (qix (qfY y1 (h.oldS s4) (h.oldS s5)) (h.old ha2) hr3) rfl rfl rfl rfl ?_
  intro w2 h
  refine qb ?_
  refine qp rfl hF ?_ ?_ <;> intro hF
  ·refine zSR (zp2 rfl (qb ?_))
   obtain rfl := qh hF; replace hF := hK1
   exact qar qc h hF ⟨rfl, trivial⟩
  exact zKER (zp2 rfl (qb (qz m1 [(0, _), (1, _), (7, _), (8, _)] (Nat.lt_succ_self m1) ⟨rfl, rfl, rfl, rfl, trivial⟩ ⟨_, hF, rfl, h⟩)))
 refine qG rfl ?_
 obtain rfl := qh hF; replace hF := hK1
 exact zSR (zp1 rfl (qb (qar qc h hF ⟨rfl, trivial⟩)))

def qad (n : Nat) (s : (List qag)) (f_0 : qag) : Option Bool :=
 (qaF n s f_0).bind fun r1 =>
 some (decide (r1 ≥ 0))

theorem qdG {n : Nat} {w : World} {s : (List qag)} {f_0 : qag} {cs1 : List Value} (ha1 : GoT.R w (old w) s cs1) {p2 : Option Addr} (ha2 : GoT.R w (old w) (some f_0) [.pointer p2]) {r : Bool} (hF : qad n s f_0 = some r) : RetV Tryz.prog 160 [GoT.v (List qag) cs1, .func (.func 231) #[] #[.pointer p2]] w r := by
 obtain ⟨p1, k1, rfl, s1⟩ := ha1
 obtain ⟨b1, o_1, cs2, rfl, -, hr1, hc1⟩ := PtR.get ha2 rfl
 obtain ⟨p3, k2, p4, k3, rfl, s2, s3⟩ := qaV hr1
 refine qf Tryz.func160 rfl (m := 9) rfl rfl (fun h => ?_)
 rw [qad] at hF
 refine zSR (zp1 rfl (zNSR (zp2 rfl ?_)))
 obtain ⟨r1, hr2, hF⟩ := qd hF
 refine qP r1 h call191 (qd8 ⟨_, _, rfl, (h.oldS s1)⟩ (h.old ha2) hr2) rfl rfl rfl rfl ?_
 intro w1 h
 exact zp2 rfl (qb (qt qc h hF ⟨rfl, trivial⟩))

def qbs (c : qJ) : Nat → Int → Option (Flow Bool Int)
 | 0, _ => none
 | n + 1, i1 =>
  bif decide (i1 < (c.Arcs.length : Int)) then
   (idx c.Arcs i1).bind fun y1 =>
   (qe0 n c y1).bind fun r1 =>
   bif (!r1) then
    some (.ret false)
   else
    (subS c.Arcs 0 i1).bind fun x1 =>
    (qad n x1 y1).bind fun r2 =>
    bif r2 then
     some (.ret false)
    else
     qbs c n (W64 (i1 + 1))
  else
   some (.nxt i1)

def qeg (n : Nat) (c : qJ) : Option Bool :=
 (qbs c n 0).bind fun o => match o with
 | .ret r => some r
 | .nxt _ =>
  some (decide ((c.Arcs.length : Int) ≤ 8))

theorem qjl {n : Nat} {w : World} {c : qJ} {cs1 : List Value} (ha1 : GoT.R w (old w) c cs1) {r : Bool} (hF : qeg n c = some r) : RetV Tryz.prog 220 [GoT.v qJ cs1] w r := by
 obtain ⟨p1, k1, p2, k2, p3, k3, rfl, s1, s2, s3⟩ := qak ha1
 refine qf Tryz.func220 rfl (m := 30) rfl rfl (fun h => ?_)
 rw [qeg] at hF
 refine zSR (qS h rfl rfl ?_)
 intro w1 bb1 h
 refine zp1 rfl (zNSSR (zp1 rfl (zl 0 3 h rfl (zp2 rfl (qb ?_)))))
 obtain ⟨o1, hF, hK1⟩ := qd hF
 refine qy (qW [(1, _), (6, _), (7, _), (8, _)] ⟨rfl, rfl, rfl, rfl, trivial⟩ ?_)
 refine qI (fun m e w' => ∃ (i1 : Int), qbs c m i1 = some o1 ∧ e = [(1, .pointer (some ⟨bb1, 0, none⟩)), (6, .slice p2 c.Arcs.length k2), (7, .int .i64 (c.Arcs.length : Int)), (8, .int .i64 i1)] ∧ SH w w' [Ch.box bb1 [.string c.Name, .int .i64 c.Kind, .slice p1 c.Pins.length k1, .slice p2 c.Arcs.length k2, .slice p3 c.Truth.length k3, .int .i64 c.Leak, .int .i64 c.Energy] 183]) n ⟨_, hF, rfl, h⟩ ?_
 rintro m1 e1 w2 ⟨i1, hF, rfl, h⟩
 rcases m1 with _ | m1
 ·rw [qbs] at hF
  cases hF
 rw [qbs] at hF
 refine zSR (zp1 rfl (zNS ?_))
 refine qp rfl hF ?_ ?_ <;> intro hF
 ·refine zKSBSR (zp1 rfl ?_)
  obtain ⟨y1, hy1, hF⟩ := qd hF
  have he1 := qg hy1
  obtain ⟨b1, o_1, q1, cs2, hp1, hq1, -, hr1, hc2⟩ := s2.at hy1
  obtain ⟨p4, k4, p5, k5, rfl, s4, s5⟩ := qaV hr1
  refine zxe hp1 hq1 he1 rfl (zc 0 (hc2.below h.below) rfl (qY qc h rfl rfl rfl ?_))
  intro w3 bb2 h
  refine zp1 rfl (zs 0 h rfl ?_)
  intro w4 h
  refine zNSR (zl 1 0 h rfl (zl 0 0 h rfl ?_))
  obtain ⟨r1, hr2, hF⟩ := qd hF
  refine qm r1 h call230 (qjM (h.old ha1) (qfY y1 (h.oldS s4) (h.oldS s5)) hr2) rfl rfl rfl rfl ?_
  intro w5 h
  refine zp2 rfl ?_
  by_cases hc3 : (!r1) = true
  ·replace hF := bifT hc3 hF
   refine qC hc3 (t := 17) rfl (zn5 rfl (zn1 rfl (zp1 rfl (qb (qej rfl rfl (zSR ?_))))))
   refine zp1 rfl (qb ?_)
   obtain rfl := qh hF; replace hF := hK1
   exact qt qc h hF ⟨rfl, trivial⟩
  replace hc3 := zb hc3
  replace hF := bifF hc3 hF
  refine qB hc3 (t := 17) rfl (qa rfl (zp1 rfl (qa rfl (zl 1 3 h rfl (qa rfl (zp1 rfl (qa rfl ?_)))))))
  obtain ⟨x1, hx1, hF⟩ := qd hF
  obtain ⟨p6, k6, hp2, hk1, hl1, g1⟩ := qpu (h.oldS s2) hx1
  refine r_v (qm3 qc rfl rfl rfl (qpq g1 rfl) hp2 hk1 hl1 rfl rfl rfl rfl) rfl ?_
  have s6 := qpd s2 hx1 hp2 hk1
  refine qa rfl (zp1 rfl (qa rfl ?_))
  obtain ⟨r2, hr3, hF⟩ := qd hF
  refine qm r2 h call160 (qdG ⟨_, _, rfl, (h.oldS s6)⟩ (qhZ (x := y1) 0 h rfl (qfY y1 (h.oldS s4) (h.oldS s5))) hr3) rfl rfl rfl rfl ?_
  intro w6 h
  refine zp1 rfl (qb ?_)
  refine qp rfl hF ?_ ?_ <;> intro hF
  ·refine zSR (zp1 rfl (qb ?_))
   obtain rfl := qh hF; replace hF := hK1
   exact qt qc h hF ⟨rfl, trivial⟩
  refine zKER (zp2 rfl (qb ?_))
  replace h := h.pick [1] rfl
  exact qz m1 [(1, _), (6, _), (7, _), (8, _)] (Nat.lt_succ_self m1) ⟨rfl, rfl, rfl, rfl, trivial⟩ ⟨_, hF, rfl, h⟩
 refine qG rfl ?_
 obtain rfl := qh hF; replace hF := hK1
 exact zSR (zp1 rfl (zl 0 3 h rfl (zp3 rfl (qb (qt qc h hF ⟨rfl, trivial⟩)))))

def qf1 (_ : Nat) (a : qag) (v0 : Int) : Option Bool :=
 some (a.Kind == v0)

theorem qjT {n : Nat} {w : World} {a : qag} {v0 : Int} {cs1 : List Value} (ha1 : GoT.R w (old w) a cs1) {p3 : Option Addr} (ha2 : GoT.R w (old w) (some v0) [.pointer p3]) {r : Bool} (hF : qf1 n a v0 = some r) : RetV Tryz.prog 247 [GoT.v qag cs1, .pointer p3] w r := by
 obtain ⟨p1, k1, p2, k2, rfl, s1, s2⟩ := qaV ha1
 obtain ⟨b1, o_1, cs2, rfl, -, hr1, hc1⟩ := PtR.get ha2 rfl
 obtain rfl := hr1
 refine qf Tryz.func247 rfl (m := 8) rfl rfl (fun h => ?_)
 rw [qf1] at hF
 refine zSR (qS h rfl rfl ?_)
 intro w1 bb1 h
 exact zp1 rfl (zNSR (zp1 rfl (zl 0 0 h rfl (zc 0 (hc1.below h.below) rfl (zp2 rfl (qb (qt qc h hF ⟨rfl, trivial⟩)))))))

def qQ (s : (List qag)) (f_0 : Int) : Nat → Int → Option (Flow Int Int)
 | 0, _ => none
 | n + 1, i1 =>
  bif decide (i1 < (s.length : Int)) then
   (idx s i1).bind fun y1 =>
   (qf1 n y1 f_0).bind fun r1 =>
   bif r1 then
    some (.ret i1)
   else
    qQ s f_0 n (W64 (i1 + 1))
  else
   some (.nxt i1)

def qaY (n : Nat) (s : (List qag)) (f_0 : Int) : Option Int :=
 (qQ s f_0 n 0).bind fun o => match o with
 | .ret r => some r
 | .nxt _ =>
  some (-1)

theorem qeI {n : Nat} {w : World} {s : (List qag)} {f_0 : Int} {cs1 : List Value} (ha1 : GoT.R w (old w) s cs1) {p2 : Option Addr} (ha2 : GoT.R w (old w) (some f_0) [.pointer p2]) {r : Int} (hF : qaY n s f_0 = some r) : RetV Tryz.prog 191 [GoT.v (List qag) cs1, .func (.func 247) #[] #[.pointer p2]] w r := by
 obtain ⟨p1, k1, rfl, s1⟩ := ha1
 obtain ⟨b1, o_1, cs2, rfl, -, hr1, hc1⟩ := PtR.get ha2 rfl
 obtain rfl := hr1
 refine qf Tryz.func191 rfl (m := 19) rfl rfl (fun h => ?_)
 rw [qaY] at hF
 refine zSR (zp1 rfl (zNSSR (zp3 rfl (qb ?_))))
 obtain ⟨o1, hF, hK1⟩ := qd hF
 refine qy (qW [(0, _), (1, _), (7, _), (8, _)] ⟨rfl, rfl, rfl, rfl, trivial⟩ ?_)
 refine qI (fun m e w' => ∃ (i1 : Int), qQ s f_0 m i1 = some o1 ∧ e = [(0, .slice p1 s.length k1), (1, .func (.func 247) #[] #[.pointer (some ⟨b1, o_1, none⟩)]), (7, .int .i64 (s.length : Int)), (8, .int .i64 i1)] ∧ SH w w' []) n ⟨_, hF, rfl, h⟩ ?_
 rintro m1 e1 w1 ⟨i1, hF, rfl, h⟩
 rcases m1 with _ | m1
 ·rw [qQ] at hF
  cases hF
 rw [qQ] at hF
 refine zSR (zp1 rfl (zNS ?_))
 refine qp rfl hF ?_ ?_ <;> intro hF
 ·refine zKSBSR (zp2 rfl (zNSR (zp2 rfl ?_)))
  refine zp1 rfl ?_
  obtain ⟨y1, hy1, hF⟩ := qd hF
  have he1 := qg hy1
  obtain ⟨b2, o_2, q1, cs3, hp1, hq1, -, hr2, hc3⟩ := s1.at hy1
  obtain ⟨p3, k2, p4, k3, rfl, s2, s3⟩ := qaV hr2
  refine zxe hp1 hq1 he1 rfl (zc 0 (hc3.below h.below) rfl ?_)
  obtain ⟨r1, hr3, hF⟩ := qd hF
  refine qm r1 h call247 (qjT (qfY y1 (h.oldS s2) (h.oldS s3)) (h.old ha2) hr3) rfl rfl rfl rfl ?_
  intro w2 h
  refine qb ?_
  refine qp rfl hF ?_ ?_ <;> intro hF
  ·refine zSR (zp2 rfl (qb ?_))
   obtain rfl := qh hF; replace hF := hK1
   exact qar qc h hF ⟨rfl, trivial⟩
  exact zKER (zp2 rfl (qb (qz m1 [(0, _), (1, _), (7, _), (8, _)] (Nat.lt_succ_self m1) ⟨rfl, rfl, rfl, rfl, trivial⟩ ⟨_, hF, rfl, h⟩)))
 refine qG rfl ?_
 obtain rfl := qh hF; replace hF := hK1
 exact zSR (zp1 rfl (qb (qar qc h hF ⟨rfl, trivial⟩)))

def qaL (n : Nat) (s : (List qag)) (f_0 : Int) : Option Bool :=
 (qaY n s f_0).bind fun r1 =>
 some (decide (r1 ≥ 0))

theorem qen {n : Nat} {w : World} {s : (List qag)} {f_0 : Int} {cs1 : List Value} (ha1 : GoT.R w (old w) s cs1) {p2 : Option Addr} (ha2 : GoT.R w (old w) (some f_0) [.pointer p2]) {r : Bool} (hF : qaL n s f_0 = some r) : RetV Tryz.prog 160 [GoT.v (List qag) cs1, .func (.func 247) #[] #[.pointer p2]] w r := by
 obtain ⟨p1, k1, rfl, s1⟩ := ha1
 obtain ⟨b1, o_1, cs2, rfl, -, hr1, hc1⟩ := PtR.get ha2 rfl
 obtain rfl := hr1
 refine qf Tryz.func160 rfl (m := 9) rfl rfl (fun h => ?_)
 rw [qaL] at hF
 refine zSR (zp1 rfl (zNSR (zp2 rfl ?_)))
 obtain ⟨r1, hr2, hF⟩ := qd hF
 refine qP r1 h call191 (qeI ⟨_, _, rfl, (h.oldS s1)⟩ (h.old ha2) hr2) rfl rfl rfl rfl ?_
 intro w1 h
 exact zp2 rfl (qb (qt qc h hF ⟨rfl, trivial⟩))

def qcv (n : Nat) (c : qJ) (kind : Int) : Option Bool :=
 (qaL n c.Arcs kind).bind fun r1 =>
 some r1

theorem qdK {n : Nat} {w : World} {c : qJ} {kind : Int} {cs1 : List Value} (ha1 : GoT.R w (old w) c cs1) {r : Bool} (hF : qcv n c kind = some r) : RetV Tryz.prog 232 [GoT.v qJ cs1, .int .i64 kind] w r := by
 obtain ⟨p1, k1, p2, k2, p3, k3, rfl, s1, s2, s3⟩ := qak ha1
 refine qf Tryz.func232 rfl (m := 9) rfl rfl (fun h => ?_)
 rw [qcv] at hF
 refine zSR (qS h rfl rfl ?_)
 intro w1 bb1 h
 refine qS h rfl rfl ?_
 intro w2 bb2 h
 refine zp1 rfl (zNSR (zp1 rfl (zl 1 3 h rfl (zp1 rfl ?_))))
 obtain ⟨r1, hr1, hF⟩ := qd hF
 refine qm r1 h call160 (qen ⟨_, _, rfl, (h.oldS s2)⟩ (qhZ (x := kind) 0 h rfl rfl) hr1) rfl rfl rfl rfl ?_
 intro w3 h
 exact zp1 rfl (qb (qt qc h hF ⟨rfl, trivial⟩))

def qaM (a_0 : qJ) : Nat → Int → Int → Option (Int × Int)
 | 0, _, _ => none
 | n + 1, i1, i2 =>
  bif decide (i2 < (a_0.Pins.length : Int)) then
   (idx a_0.Pins i2).bind fun y1 =>
   bif y1.Clock then
    qaM a_0 n (W64 (i1 + 1)) (W64 (i2 + 1))
   else
    qaM a_0 n i1 (W64 (i2 + 1))
  else
   some (i1, i2)

def qdL (n : Nat) (a_0 : qJ) : Option Bool :=
 (qaM a_0 n 0 0).bind fun o => match o with
 | (i1, _) =>
  bif (a_0.Kind == 1) then
   bif (i1 == 0) then
    (qc1 n a_0).bind fun r1 =>
    (shlS 1 r1).bind fun y2 =>
    bif ((a_0.Truth.length : Int) == y2) then
     (qbv n a_0.Truth 0 1).bind fun r2 =>
     some r2
    else
     some false
   else
    some false
  else
   bif (a_0.Kind == 2) then
    bif (i1 == 1) then
     bif ((a_0.Truth.length : Int) == 0) then
      (qcv n a_0 1).bind fun r3 =>
      bif (!r3) then
       (qcv n a_0 2).bind fun r4 =>
       (qcv n a_0 3).bind fun r5 =>
       some (!(r4 == r5))
      else
       some false
     else
      some false
    else
     some false
   else
    bif (a_0.Kind == 3) then
     bif (i1 == 1) then
      bif ((a_0.Truth.length : Int) == 0) then
       (qcv n a_0 1).bind fun r6 =>
       bif r6 then
        (qcv n a_0 2).bind fun r7 =>
        bif r7 then
         (qcv n a_0 3).bind fun r8 =>
         some (!r8)
        else
         some false
       else
        some false
      else
       some false
     else
      some false
    else
     some false

theorem qiO {n : Nat} {w : World} {a_0 : qJ} {cs1 : List Value} (ha1 : GoT.R w (old w) a_0 cs1) {r : Bool} (hF : qdL n a_0 = some r) : RetV Tryz.prog 221 [GoT.v qJ cs1] w r := by
 obtain ⟨p1, k1, p2, k2, p3, k3, rfl, s1, s2, s3⟩ := qak ha1
 refine qf Tryz.func221 rfl (m := 83) rfl rfl (fun h => ?_)
 rw [qdL] at hF
 refine zSR (qS h rfl rfl ?_)
 intro w1 bb1 h
 refine zp1 rfl (zNSR (zp1 rfl (zNSSR (zp1 rfl (zl 0 2 h rfl (zp1 rfl ?_))))))
 refine zp1 rfl (qb ?_)
 obtain ⟨o1, hF, hK1⟩ := qd hF
 refine qy (qW [(1, _), (3, _), (7, _), (8, _), (9, _)] ⟨rfl, rfl, rfl, rfl, rfl, trivial⟩ ?_)
 refine qI (fun m e w' => ∃ (i1 : Int) (i2 : Int), qaM a_0 m i1 i2 = some o1 ∧ e = [(1, .pointer (some ⟨bb1, 0, none⟩)), (3, .int .i64 i1), (7, .slice p1 a_0.Pins.length k1), (8, .int .i64 (a_0.Pins.length : Int)), (9, .int .i64 i2)] ∧ SH w w' [Ch.box bb1 [.string a_0.Name, .int .i64 a_0.Kind, .slice p1 a_0.Pins.length k1, .slice p2 a_0.Arcs.length k2, .slice p3 a_0.Truth.length k3, .int .i64 a_0.Leak, .int .i64 a_0.Energy] 183]) n ⟨_, _, hF, rfl, h⟩ ?_
 rintro m1 e1 w2 ⟨i1, i2, hF, rfl, h⟩
 rcases m1 with _ | m1
 ·rw [qaM] at hF
  cases hF
 rw [qaM] at hF
 refine zSR (zp1 rfl (zNS ?_))
 refine qp rfl hF ?_ ?_ <;> intro hF
 ·refine zKSBSR ?_
  obtain ⟨y1, hy1, hF⟩ := qd hF
  have he1 := qg hy1
  obtain ⟨b1, o_1, q1, cs2, hp1, hq1, -, hr1, hc2⟩ := s1.at hy1
  obtain rfl := qbx hr1
  refine zxe hp1 hq1 he1 rfl (zc 0 (hc2.below h.below) rfl (qY qc h rfl rfl rfl ?_))
  intro w3 bb2 h
  refine zs 0 h rfl ?_
  intro w4 h
  refine zNSR (zp1 rfl (zl 0 3 h rfl (qb ?_)))
  refine qp rfl hF ?_ ?_ <;> intro hF
  ·refine qx (zp3 rfl (zNER (zp2 rfl (qb ?_))))
   replace h := h.pick [1] rfl
   exact qz m1 [(1, _), (3, _), (7, _), (8, _), (9, _)] (Nat.lt_succ_self m1) ⟨rfl, rfl, rfl, rfl, rfl, trivial⟩ ⟨_, _, hF, rfl, h⟩
  refine zKER (zp2 rfl (qb ?_))
  replace h := h.pick [1] rfl
  exact qz m1 [(1, _), (3, _), (7, _), (8, _), (9, _)] (Nat.lt_succ_self m1) ⟨rfl, rfl, rfl, rfl, rfl, trivial⟩ ⟨_, _, hF, rfl, h⟩
 refine qG rfl ?_
 obtain rfl := qh hF; replace hF := hK1
 refine zSSR (zp1 rfl (zl 0 1 h rfl (qb (zBSR (zp2 rfl (qb ?_))))))
 refine qp rfl hF ?_ ?_ <;> intro hF
 ·refine qbm ?_
  refine qcf rfl (by kernel_rfl) ?_
  refine zd3 rfl ?_
  by_cases hc5 : (i1 == 0) = true
  ·replace hF := bifT hc5 hF
   refine qc0 hc5 (t := 24) rfl (qi rfl (zd1 rfl (qi rfl ?_)))
   refine zdl 0 4 h rfl ?_
   refine qi rfl (zd1 rfl (qi rfl ?_))
   refine zdl 0 0 h rfl ?_
   refine qi rfl ?_
   obtain ⟨r1, hr2, hF⟩ := qd hF
   refine qb4 r1 (vsI _) call163 (fun _ hb => qfI ((h.ext hb).old ha1) hr2) rfl rfl rfl rfl ?_
   refine qi rfl ?_
   obtain ⟨y2, hx1, hF⟩ := qd hF
   obtain ⟨g1, hx1⟩ := qkl hx1
   refine d_v (fun _ hb => qqe g1 rfl rfl) rfl ?_
   rw [hx1]
   refine qi rfl (zd3 rfl ?_)
   by_cases hc6 : ((a_0.Truth.length : Int) == y2) = true
   ·replace hF := bifT hc6 hF
    refine qc0 hc6 (t := 33) rfl (qi rfl (zd1 rfl (qi rfl ?_)))
    refine zdl 0 4 h rfl ?_
    refine qi rfl ?_
    obtain ⟨r2, hr3, hF⟩ := qd hF
    refine qb4 r2 (vsB _) call112 (fun _ hb => qcD ⟨_, _, rfl, ((h.ext hb).oldS s3)⟩ hr3) rfl rfl rfl rfl ?_
    refine zd2 rfl ?_
    refine qbc (fun w5 hb => ?_)
    replace h := h.ext hb
    clear hb
    exact qt qc h hF ⟨rfl, trivial⟩
   replace hc6 := zb hc6
   replace hF := bifF hc6 hF
   refine qc7 hc6 (t := 33) rfl (qj rfl rfl rfl (qj rfl rfl rfl (qj rfl rfl rfl (zd2 rfl ?_))))
   refine qbc (fun w6 hb => ?_)
   replace h := h.ext hb
   clear hb
   exact qt qc h hF ⟨rfl, trivial⟩
  replace hc5 := zb hc5
  replace hF := bifF hc5 hF
  refine qc7 hc5 (t := 24) rfl (qj rfl rfl rfl (qj rfl rfl rfl (qj rfl rfl rfl (qj rfl rfl rfl (qj rfl rfl rfl (qj rfl rfl rfl (qj rfl rfl rfl (zd2 rfl (qj rfl rfl rfl (qj rfl rfl rfl ?_))))))))))
  refine qj rfl rfl rfl (zd2 rfl ?_)
  refine qbc (fun w7 hb => ?_)
  replace h := h.ext hb
  clear hb
  exact qt qc h hF ⟨rfl, trivial⟩
 refine zSR (zp2 rfl (qb ?_))
 refine qp rfl hF ?_ ?_ <;> intro hF
 ·refine qbm ?_
  refine qcf rfl (by kernel_rfl) ?_
  refine zd3 rfl ?_
  by_cases hc8 : (i1 == 1) = true
  ·replace hF := bifT hc8 hF
   refine qc0 hc8 (t := 42) rfl (qi rfl (zd1 rfl (qi rfl ?_)))
   refine zdl 0 4 h rfl ?_
   refine qi rfl (zd1 rfl (qi rfl (zd3 rfl ?_)))
   by_cases hc9 : ((a_0.Truth.length : Int) == 0) = true
   ·replace hF := bifT hc9 hF
    refine qc0 hc9 (t := 48) rfl (qi rfl ?_)
    refine zdl 0 0 h rfl ?_
    refine qi rfl ?_
    obtain ⟨r3, hr4, hF⟩ := qd hF
    refine qb4 r3 (vsB _) call232 (fun _ hb => qdK ((h.ext hb).old ha1) hr4) rfl rfl rfl rfl ?_
    refine qi rfl (zd3 rfl ?_)
    by_cases hc10 : (!r3) = true
    ·replace hF := bifT hc10 hF
     refine qc0 hc10 (t := 53) rfl (qi rfl ?_)
     refine zdl 0 0 h rfl ?_
     refine qi rfl ?_
     obtain ⟨r4, hr5, hF⟩ := qd hF
     refine qb4 r4 (vsB _) call232 (fun _ hb => qdK ((h.ext hb).old ha1) hr5) rfl rfl rfl rfl ?_
     refine qi rfl ?_
     refine zdl 0 0 h rfl ?_
     refine qi rfl ?_
     obtain ⟨r5, hr6, hF⟩ := qd hF
     refine qb4 r5 (vsB _) call232 (fun _ hb => qdK ((h.ext hb).old ha1) hr6) rfl rfl rfl rfl ?_
     refine qi rfl (zd3 rfl ?_)
     refine qbc (fun w8 hb => ?_)
     replace h := h.ext hb
     clear hb
     exact qt qc h hF ⟨rfl, trivial⟩
    replace hc10 := zb hc10
    replace hF := bifF hc10 hF
    refine qc7 hc10 (t := 53) rfl (qj rfl rfl rfl (qj rfl rfl rfl (qj rfl rfl rfl (qj rfl rfl rfl (qj rfl rfl rfl (zd2 rfl ?_))))))
    refine qbc (fun w9 hb => ?_)
    replace h := h.ext hb
    clear hb
    exact qt qc h hF ⟨rfl, trivial⟩
   replace hc9 := zb hc9
   replace hF := bifF hc9 hF
   refine qc7 hc9 (t := 48) rfl (qj rfl rfl rfl (qj rfl rfl rfl (qj rfl rfl rfl (zd2 rfl (qj rfl rfl rfl (qj rfl rfl rfl (qj rfl rfl rfl (qj rfl rfl rfl (qj rfl rfl rfl (zd1 rfl ?_))))))))))
   refine zd1 rfl ?_
   refine qbc (fun w10 hb => ?_)
   replace h := h.ext hb
   clear hb
   exact qt qc h hF ⟨rfl, trivial⟩
  replace hc8 := zb hc8
  replace hF := bifF hc8 hF
  refine qc7 hc8 (t := 42) rfl (qj rfl rfl rfl (qj rfl rfl rfl (qj rfl rfl rfl (qj rfl rfl rfl (zd2 rfl (qj rfl rfl rfl (qj rfl rfl rfl (qj rfl rfl rfl (zd2 rfl ?_)))))))))
  refine qj rfl rfl rfl (qj rfl rfl rfl (qj rfl rfl rfl (qj rfl rfl rfl (qj rfl rfl rfl (zd2 rfl ?_)))))
  refine qbc (fun w11 hb => ?_)
  replace h := h.ext hb
  clear hb
  exact qt qc h hF ⟨rfl, trivial⟩
 refine zSR (zp2 rfl (qb ?_))
 refine qp rfl hF ?_ ?_ <;> intro hF
 ·refine zSR (zp3 rfl ?_)
  by_cases hc12 : (i1 == 1) = true
  ·replace hF := bifT hc12 hF
   refine qC hc12 (t := 64) rfl (qa rfl (zp1 rfl (qa rfl (zl 0 4 h rfl (qa rfl (zp1 rfl (qa rfl (zp3 rfl ?_))))))))
   by_cases hc13 : ((a_0.Truth.length : Int) == 0) = true
   ·replace hF := bifT hc13 hF
    refine qC hc13 (t := 70) rfl (qa rfl (zl 0 0 h rfl (qa rfl ?_)))
    obtain ⟨r6, hr7, hF⟩ := qd hF
    refine qm r6 h call232 (qdK (h.old ha1) hr7) rfl rfl rfl rfl ?_
    intro w12 h
    refine zp2 rfl ?_
    by_cases hc14 : r6 = true
    ·replace hF := bifT hc14 hF
     refine qC hc14 (t := 74) rfl (qa rfl (zl 0 0 h rfl (qa rfl ?_)))
     obtain ⟨r7, hr8, hF⟩ := qd hF
     refine qm r7 h call232 (qdK (h.old ha1) hr8) rfl rfl rfl rfl ?_
     intro w13 h
     refine zp2 rfl ?_
     by_cases hc15 : r7 = true
     ·replace hF := bifT hc15 hF
      refine qC hc15 (t := 78) rfl (qa rfl (zl 0 0 h rfl (qa rfl ?_)))
      obtain ⟨r8, hr9, hF⟩ := qd hF
      refine qm r8 h call232 (qdK (h.old ha1) hr9) rfl rfl rfl rfl ?_
      intro w14 h
      exact qa rfl (zp3 rfl (qb (qt qc h hF ⟨rfl, trivial⟩)))
     replace hc15 := zb hc15
     replace hF := bifF hc15 hF
     exact qB hc15 (t := 78) rfl (zn3 rfl (zp2 rfl (qb (qt qc h hF ⟨rfl, trivial⟩))))
    replace hc14 := zb hc14
    replace hF := bifF hc14 hF
    exact qB hc14 (t := 74) rfl (zn2 rfl (zp2 rfl (zn3 rfl (zp2 rfl (qb (qt qc h hF ⟨rfl, trivial⟩))))))
   replace hc13 := zb hc13
   replace hF := bifF hc13 hF
   refine qB hc13 (t := 70) rfl (zn2 rfl (zp2 rfl (zn2 rfl (zp2 rfl (zn3 rfl ?_)))))
   exact zp2 rfl (qb (qt qc h hF ⟨rfl, trivial⟩))
  replace hc12 := zb hc12
  replace hF := bifF hc12 hF
  refine qB hc12 (t := 64) rfl (zn4 rfl (zp2 rfl (zn2 rfl (zp2 rfl (zn1 rfl ?_)))))
  exact zn1 rfl (zp2 rfl (zn3 rfl (zp2 rfl (qb (qt qc h hF ⟨rfl, trivial⟩)))))
 exact zKE (zSR (zp1 rfl (qb (qt qc h hF ⟨rfl, trivial⟩))))

def qhu (n : Nat) (c : qJ) : Option Bool :=
 (qf7 n c.Name).bind fun r1 =>
 bif r1 then
  (qgS n c.Pins).bind fun r2 =>
  bif r2 then
   (qeg n c).bind fun r3 =>
   bif r3 then
    (qaD n c.Leak 0 100000).bind fun r4 =>
    bif r4 then
     (qaD n c.Energy 0 100000).bind fun r5 =>
     bif r5 then
      (qdL n c).bind fun r6 =>
      some r6
     else
      some false
    else
     some false
   else
    some false
  else
   some false
 else
  some false

theorem qlu {n : Nat} {w : World} {c : qJ} {cs1 : List Value} (ha1 : GoT.R w (old w) c cs1) {r : Bool} (hF : qhu n c = some r) : RetV Tryz.prog 204 [GoT.v qJ cs1] w r := by
 obtain ⟨p1, k1, p2, k2, p3, k3, rfl, s1, s2, s3⟩ := qak ha1
 refine qf Tryz.func204 rfl (m := 29) rfl rfl (fun h => ?_)
 rw [qhu] at hF
 refine zSR (qS h rfl rfl ?_)
 intro w1 bb1 h
 refine zp1 rfl (zNSR (zp1 rfl (zl 0 0 h rfl ?_)))
 obtain ⟨r1, hr1, hF⟩ := qd hF
 refine qm r1 h call218 (qjb hr1) rfl rfl rfl rfl ?_
 intro w2 h
 refine zp1 rfl ?_
 by_cases hc1 : r1 = true
 ·replace hF := bifT hc1 hF
  refine qC hc1 (t := 6) rfl (qa rfl (zp1 rfl (qa rfl (zl 0 2 h rfl (qa rfl ?_)))))
  obtain ⟨r2, hr2, hF⟩ := qd hF
  refine qm r2 h call219 (qk7 ⟨_, _, rfl, (h.oldS s1)⟩ hr2) rfl rfl rfl rfl ?_
  intro w3 h
  refine zp2 rfl ?_
  by_cases hc2 : r2 = true
  ·replace hF := bifT hc2 hF
   refine qC hc2 (t := 11) rfl (qa rfl (zl 0 0 h rfl (qa rfl ?_)))
   obtain ⟨r3, hr3, hF⟩ := qd hF
   refine qm r3 h call220 (qjl (h.old ha1) hr3) rfl rfl rfl rfl ?_
   intro w4 h
   refine zp2 rfl ?_
   by_cases hc3 : r3 = true
   ·replace hF := bifT hc3 hF
    refine qC hc3 (t := 15) rfl (qa rfl (zp1 rfl (qa rfl (zl 0 5 h rfl (qa rfl ?_)))))
    obtain ⟨r4, hr4, hF⟩ := qd hF
    refine qm r4 h call86 (qam hr4) rfl rfl rfl rfl ?_
    intro w5 h
    refine zp2 rfl ?_
    by_cases hc4 : r4 = true
    ·replace hF := bifT hc4 hF
     refine qC hc4 (t := 20) rfl (qa rfl (zp1 rfl (qa rfl (zl 0 6 h rfl (qa rfl ?_)))))
     obtain ⟨r5, hr5, hF⟩ := qd hF
     refine qm r5 h call86 (qam hr5) rfl rfl rfl rfl ?_
     intro w6 h
     refine zp2 rfl ?_
     by_cases hc5 : r5 = true
     ·replace hF := bifT hc5 hF
      refine qC hc5 (t := 25) rfl (qa rfl (zl 0 0 h rfl (qa rfl ?_)))
      obtain ⟨r6, hr6, hF⟩ := qd hF
      refine qm r6 h call221 (qiO (h.old ha1) hr6) rfl rfl rfl rfl ?_
      intro w7 h
      exact zp2 rfl (qb (qt qc h hF ⟨rfl, trivial⟩))
     replace hc5 := zb hc5
     replace hF := bifF hc5 hF
     exact qB hc5 (t := 25) rfl (zn2 rfl (zp2 rfl (qb (qt qc h hF ⟨rfl, trivial⟩))))
    replace hc4 := zb hc4
    replace hF := bifF hc4 hF
    exact qB hc4 (t := 20) rfl (zn3 rfl (zp2 rfl (zn2 rfl (zp2 rfl (qb (qt qc h hF ⟨rfl, trivial⟩))))))
   replace hc3 := zb hc3
   replace hF := bifF hc3 hF
   refine qB hc3 (t := 15) rfl (zn3 rfl (zp2 rfl (zn3 rfl (zp2 rfl (zn1 rfl ?_)))))
   exact zn1 rfl (zp2 rfl (qb (qt qc h hF ⟨rfl, trivial⟩)))
  replace hc2 := zb hc2
  replace hF := bifF hc2 hF
  refine qB hc2 (t := 11) rfl (zn2 rfl (zp2 rfl (zn3 rfl (zp2 rfl (zn2 rfl ?_)))))
  exact zn1 rfl (zp2 rfl (zn2 rfl (zp2 rfl (qb (qt qc h hF ⟨rfl, trivial⟩)))))
 replace hc1 := zb hc1
 replace hF := bifF hc1 hF
 refine qB hc1 (t := 6) rfl (zn3 rfl (zp2 rfl (zn2 rfl (zp2 rfl (zn2 rfl ?_)))))
 refine zn1 rfl (zp2 rfl (zn3 rfl (zp2 rfl (zn2 rfl (zp2 rfl ?_)))))
 exact qb (qt qc h hF ⟨rfl, trivial⟩)

def qbJ (l : qA) : Nat → (List ByteArray) → Int → Option (Flow Bool ((List ByteArray) × Int))
 | 0, _, _ => none
 | n + 1, x1, i1 =>
  bif decide (i1 < (l.Cells.length : Int)) then
   (idx l.Cells i1).bind fun y1 =>
   (qhu n y1).bind fun r1 =>
   bif (!r1) then
    some (.ret false)
   else
    (appS x1 ([y1.Name] : List ByteArray)).bind fun x2 =>
    qbJ l n x2 (W64 (i1 + 1))
  else
   some (.nxt (x1, i1))

def qfp (n : Nat) (l : qA) : Option Bool :=
 (qbJ l n ([] : List ByteArray) 0).bind fun o => match o with
 | .ret r => some r
 | .nxt (x1, _) =>
  bif decide ((l.Cells.length : Int) ≤ 8) then
   (qc9 n x1).bind fun r2 =>
   some r2
  else
   some false

theorem qkj {n : Nat} {w : World} {l : qA} {cs1 : List Value} (ha1 : GoT.R w (old w) l cs1) {r : Bool} (hF : qfp n l = some r) : RetV Tryz.prog 179 [GoT.v qA cs1] w r := by
 obtain ⟨p1, k1, rfl, s1⟩ := qbR ha1
 refine qf Tryz.func179 rfl (m := 30) rfl rfl (fun h => ?_)
 rw [qfp] at hF
 refine zSR (qS h rfl rfl ?_)
 intro w1 bb1 h
 refine zp1 rfl (zNSR (zp1 rfl (zNSSR (zp1 rfl (zl 0 0 h rfl (zp1 rfl ?_))))))
 refine zp1 rfl (qb ?_)
 replace h := h.nil (α := ByteArray)
 obtain ⟨o1, hF, hK1⟩ := qd hF
 refine qy (qW [(1, _), (3, _), (7, _), (8, _), (9, _)] ⟨rfl, rfl, rfl, rfl, rfl, trivial⟩ ?_)
 refine qI (fun m e w' => ∃ (S1 : Nat → Prop) (p2 : Option Addr) (ln1 : Nat) (k2 : Nat) (x1 : (List ByteArray)) (i1 : Int), qbJ l m x1 i1 = some o1 ∧ e = [(1, .pointer (some ⟨bb1, 0, none⟩)), (3, .slice p2 ln1 k2), (7, .slice p1 l.Cells.length k1), (8, .int .i64 (l.Cells.length : Int)), (9, .int .i64 i1)] ∧ SH w w' [Ch.own S1 (x1 : List ByteArray) [.slice p2 ln1 k2], Ch.box bb1 [.slice p1 l.Cells.length k1] 43]) n ⟨_, _, _, _, _, _, hF, rfl, h⟩ ?_
 rintro m1 e1 w2 ⟨S1, p2, ln1, k2, x1, i1, hF, rfl, h⟩
 obtain rfl := (h.sl 0 rfl).2
 rcases m1 with _ | m1
 ·rw [qbJ] at hF
  cases hF
 rw [qbJ] at hF
 refine zSR (zp1 rfl (zNS ?_))
 refine qp rfl hF ?_ ?_ <;> intro hF
 ·refine zKSBSR ?_
  obtain ⟨y1, hy1, hF⟩ := qd hF
  have he1 := qg hy1
  obtain ⟨b1, o_1, q1, cs2, hp1, hq1, -, hr1, hc2⟩ := s1.at hy1
  obtain ⟨p3, k3, p4, k4, p5, k5, rfl, s2, s3, s4⟩ := qak hr1
  refine zxe hp1 hq1 he1 rfl (zc 0 (hc2.below h.below) rfl (qY qc h rfl rfl rfl ?_))
  intro w3 bb2 h
  refine zs 0 h rfl ?_
  intro w4 h
  replace h : SH _ _ [Ch.box bb2 [.string y1.Name, .int .i64 y1.Kind, .slice p3 y1.Pins.length k3, .slice p4 y1.Arcs.length k4, .slice p5 y1.Truth.length k5, .int .i64 y1.Leak, .int .i64 y1.Energy] 183, Ch.own S1 (x1 : List ByteArray) [.slice p2 x1.length k2], Ch.box bb1 [.slice p1 l.Cells.length k1] 43] := h
  refine zNSSR (zl 0 0 h rfl ?_)
  obtain ⟨r1, hr2, hF⟩ := qd hF
  refine qm r1 h call204 (qlu (qhH y1 (h.oldS s2) (h.oldS s3) (h.oldS s4)) hr2) rfl rfl rfl rfl ?_
  intro w5 h
  refine zp1 rfl (qb ?_)
  refine qp rfl hF ?_ ?_ <;> intro hF
  ·refine zSR (zp1 rfl (qb ?_))
   obtain rfl := qh hF; replace hF := hK1
   exact qt qc h hF ⟨rfl, trivial⟩
  refine qdQ (qx (zp2 rfl (zl 0 0 h rfl (qa7 qc [.tmp 18] _ ([y1.Name] : List ByteArray) h rfl rfl rfl rfl rfl rfl rfl rfl rfl ⟨rfl, trivial⟩ rfl ?_))))
  intro w6 p6 S2 h
  obtain ⟨x2, hx1, hF⟩ := qd hF
  obtain ⟨g1, hx1⟩ := qbl hx1
  refine qeE qc 2 h rfl (h.sl 0 rfl).1 (h.sl 0 rfl).2 rfl rfl rfl rfl rfl rfl rfl rfl rfl g1 hx1 rfl ?_
  intro w7 p7 k6 S3 h
  refine zp1 rfl (zNER (zp2 rfl (qb ?_)))
  replace h := h.pick [2, 3] rfl
  exact qz m1 [(1, _), (3, _), (7, _), (8, _), (9, _)] (Nat.lt_succ_self m1) ⟨rfl, rfl, rfl, rfl, rfl, trivial⟩ ⟨_, _, _, _, _, _, hF, rfl, h⟩
 refine qG rfl ?_
 obtain rfl := qh hF; replace hF := hK1
 refine zSR (zp1 rfl (zl 1 0 h rfl (zp3 rfl ?_)))
 by_cases hc4 : (decide ((l.Cells.length : Int) ≤ 8)) = true
 ·replace hF := bifT hc4 hF
  refine qC hc4 (t := 26) rfl (qa rfl (zp1 rfl (qa rfl ?_)))
  obtain ⟨r2, hr3, hF⟩ := qd hF
  refine qm r2 h call205 (qeL (h.own 0 rfl) hr3) rfl rfl rfl rfl ?_
  intro w8 h
  exact zp2 rfl (qb (qt qc h hF ⟨rfl, trivial⟩))
 replace hc4 := zb hc4
 replace hF := bifF hc4 hF
 exact qB hc4 (t := 26) rfl (zn2 rfl (zp2 rfl (qb (qt qc h hF ⟨rfl, trivial⟩))))

def qaI (d : qk) : Nat → (List ByteArray) → Int → Option ((List ByteArray) × Int)
 | 0, _, _ => none
 | n + 1, x3, i2 =>
  bif decide (i2 < (d.Ports.length : Int)) then
   (idx d.Ports i2).bind fun y2 =>
   (appS x3 ([y2.Name] : List ByteArray)).bind fun x4 =>
   qaI d n x4 (W64 (i2 + 1))
  else
   some (x3, i2)

def qaK (d : qk) : Nat → (List ByteArray) → Int → Option ((List ByteArray) × Int)
 | 0, _, _ => none
 | n + 1, x1, i1 =>
  bif decide (i1 < (d.Instances.length : Int)) then
   (idx d.Instances i1).bind fun y1 =>
   (appS x1 ([y1.Name] : List ByteArray)).bind fun x2 =>
   qaK d n x2 (W64 (i1 + 1))
  else
   some (x1, i1)

def qdc (n : Nat) (d : qk) : Option Bool :=
 (qaK d n ([] : List ByteArray) 0).bind fun o => match o with
 | (x1, _) =>
  (qaI d n ([] : List ByteArray) 0).bind fun o => match o with
  | (x3, _) =>
   bif decide ((x1.length : Int) ≤ 14) then
    bif decide ((d.Nets.length : Int) ≤ 30) then
     bif decide ((x3.length : Int) ≤ 8) then
      (qc9 n x1).bind fun r1 =>
      bif r1 then
       (qc9 n d.Nets).bind fun r2 =>
       bif r2 then
        (qc9 n x3).bind fun r3 =>
        some r3
       else
        some false
      else
       some false
     else
      some false
    else
     some false
   else
    some false

theorem qiw {n : Nat} {w : World} {d : qk} {cs1 : List Value} (ha1 : GoT.R w (old w) d cs1) {r : Bool} (hF : qdc n d = some r) : RetV Tryz.prog 180 [GoT.v qk cs1] w r := by
 obtain ⟨p1, k1, p2, k2, p3, k3, rfl, s1, s2, s3⟩ := qaQ ha1
 refine qf Tryz.func180 rfl (m := 62) rfl rfl (fun h => ?_)
 rw [qdc] at hF
 refine zSR (qS h rfl rfl ?_)
 intro w1 bb1 h
 refine zp1 rfl (zNSR (zp2 rfl (zNSSR (zp1 rfl (zl 0 0 h rfl ?_)))))
 refine zp2 rfl (qb ?_)
 replace h := h.nil (α := ByteArray)
 obtain ⟨o1, hF, hK1⟩ := qd hF
 refine qy (qW [(1, _), (3, _), (4, _), (10, _), (11, _), (12, _)] ⟨rfl, rfl, rfl, rfl, rfl, rfl, trivial⟩ ?_)
 refine qI (fun m e w' => ∃ (S1 : Nat → Prop) (p4 : Option Addr) (ln1 : Nat) (k4 : Nat) (x1 : (List ByteArray)) (i1 : Int), qaK d m x1 i1 = some o1 ∧ e = [(1, .pointer (some ⟨bb1, 0, none⟩)), (3, .slice p4 ln1 k4), (4, .slice none 0 0), (10, .slice p1 d.Instances.length k1), (11, .int .i64 (d.Instances.length : Int)), (12, .int .i64 i1)] ∧ SH w w' [Ch.own S1 (x1 : List ByteArray) [.slice p4 ln1 k4], Ch.box bb1 [.slice p1 d.Instances.length k1, .slice p2 d.Nets.length k2, .slice p3 d.Ports.length k3] 47]) n ⟨_, _, _, _, _, _, hF, rfl, h⟩ ?_
 rintro m1 e1 w2 ⟨S1, p4, ln1, k4, x1, i1, hF, rfl, h⟩
 obtain rfl := (h.sl 0 rfl).2
 rcases m1 with _ | m1
 ·rw [qaK] at hF
  cases hF
 rw [qaK] at hF
 refine zSR (zp1 rfl (zNS ?_))
 refine qp rfl hF ?_ ?_ <;> intro hF
 ·refine zKSBSR ?_
  obtain ⟨y1, hy1, hF⟩ := qd hF
  have he1 := qg hy1
  obtain ⟨b1, o_1, q1, cs2, hp1, hq1, -, hr1, hc2⟩ := s1.at hy1
  obtain ⟨p5, k5, rfl, s4⟩ := qaf hr1
  refine zxe hp1 hq1 he1 rfl (zc 0 (hc2.below h.below) rfl (qY qc h rfl rfl rfl ?_))
  intro w3 bb2 h
  refine zs 0 h rfl ?_
  intro w4 h
  replace h : SH _ _ [Ch.box bb2 [.string y1.Name, .int .i64 y1.Cell, .slice p5 y1.Nets.length k5] 185, Ch.own S1 (x1 : List ByteArray) [.slice p4 x1.length k4], Ch.box bb1 [.slice p1 d.Instances.length k1, .slice p2 d.Nets.length k2, .slice p3 d.Ports.length k3] 47] := h
  refine qb (qx (zp2 rfl (zl 0 0 h rfl (qa7 qc [.tmp 18] _ ([y1.Name] : List ByteArray) h rfl rfl rfl rfl rfl rfl rfl rfl rfl ⟨rfl, trivial⟩ rfl ?_))))
  intro w5 p6 S2 h
  obtain ⟨x2, hx1, hF⟩ := qd hF
  obtain ⟨g1, hx1⟩ := qbl hx1
  refine qeE qc 2 h rfl (h.sl 0 rfl).1 (h.sl 0 rfl).2 rfl rfl rfl rfl rfl rfl rfl rfl rfl g1 hx1 rfl ?_
  intro w6 p7 k6 S3 h
  refine zp1 rfl (zNER (zp2 rfl (qb ?_)))
  replace h := h.pick [2, 3] rfl
  exact qz m1 [(1, _), (3, _), (4, _), (10, _), (11, _), (12, _)] (Nat.lt_succ_self m1) ⟨rfl, rfl, rfl, rfl, rfl, rfl, trivial⟩ ⟨_, _, _, _, _, _, hF, rfl, h⟩
 refine qG rfl ?_
 obtain rfl := qh hF; replace hF := hK1
 refine zSSR (zp1 rfl (zl 1 2 h rfl (zp2 rfl (qb ?_))))
 replace h := h.nil (α := ByteArray)
 obtain ⟨o2, hF, hK2⟩ := qd hF
 refine qy (qW [(1, _), (3, _), (4, _), (23, _), (24, _), (25, _)] ⟨rfl, rfl, rfl, rfl, rfl, rfl, trivial⟩ ?_)
 refine qI (fun m e w' => ∃ (S4 : Nat → Prop) (p8 : Option Addr) (ln2 : Nat) (k7 : Nat) (x3 : (List ByteArray)) (i2 : Int), qaI d m x3 i2 = some o2 ∧ e = [(1, .pointer (some ⟨bb1, 0, none⟩)), (3, .slice p4 x1.length k4), (4, .slice p8 ln2 k7), (23, .slice p3 d.Ports.length k3), (24, .int .i64 (d.Ports.length : Int)), (25, .int .i64 i2)] ∧ SH w w' [Ch.own S4 (x3 : List ByteArray) [.slice p8 ln2 k7], Ch.own S1 (x1 : List ByteArray) [.slice p4 x1.length k4], Ch.box bb1 [.slice p1 d.Instances.length k1, .slice p2 d.Nets.length k2, .slice p3 d.Ports.length k3] 47]) n ⟨_, _, _, _, _, _, hF, rfl, h⟩ ?_
 rintro m2 e2 w7 ⟨S4, p8, ln2, k7, x3, i2, hF, rfl, h⟩
 obtain rfl := (h.sl 0 rfl).2
 rcases m2 with _ | m2
 ·rw [qaI] at hF
  cases hF
 rw [qaI] at hF
 refine zSR (zp1 rfl (zNS ?_))
 refine qp rfl hF ?_ ?_ <;> intro hF
 ·refine zKSBSR ?_
  obtain ⟨y2, hy2, hF⟩ := qd hF
  have he2 := qg hy2
  obtain ⟨b2, o_2, q2, cs3, hp2, hq2, -, hr2, hc4⟩ := s3.at hy2
  obtain rfl := qbk hr2
  refine zxe hp2 hq2 he2 rfl (zc 0 (hc4.below h.below) rfl (qY qc h rfl rfl rfl ?_))
  intro w8 bb3 h
  refine zs 0 h rfl ?_
  intro w9 h
  replace h : SH _ _ [Ch.box bb3 [.string y2.Name, .int .i64 y2.Dir, .int .i64 y2.Net] 187, Ch.own S4 (x3 : List ByteArray) [.slice p8 x3.length k7], Ch.own S1 (x1 : List ByteArray) [.slice p4 x1.length k4], Ch.box bb1 [.slice p1 d.Instances.length k1, .slice p2 d.Nets.length k2, .slice p3 d.Ports.length k3] 47] := h
  refine qb (qx (zp2 rfl (zl 0 0 h rfl (qa7 qc [.tmp 31] _ ([y2.Name] : List ByteArray) h rfl rfl rfl rfl rfl rfl rfl rfl rfl ⟨rfl, trivial⟩ rfl ?_))))
  intro w10 p9 S5 h
  obtain ⟨x4, hx2, hF⟩ := qd hF
  obtain ⟨g2, hx2⟩ := qbl hx2
  refine qeE qc 2 h rfl (h.sl 0 rfl).1 (h.sl 0 rfl).2 rfl rfl rfl rfl rfl rfl rfl rfl rfl g2 hx2 rfl ?_
  intro w11 p10 k8 S6 h
  refine zp1 rfl (zNER (zp2 rfl (qb ?_)))
  replace h := h.pick [2, 3, 4] rfl
  exact qz m2 [(1, _), (3, _), (4, _), (23, _), (24, _), (25, _)] (Nat.lt_succ_self m2) ⟨rfl, rfl, rfl, rfl, rfl, rfl, trivial⟩ ⟨_, _, _, _, _, _, hF, rfl, h⟩
 refine qG rfl ?_
 obtain rfl := qh hF; replace hF := hK2
 refine zSR (zp4 rfl ?_)
 by_cases hc5 : (decide ((x1.length : Int) ≤ 14)) = true
 ·replace hF := bifT hc5 hF
  refine qC hc5 (t := 38) rfl (qa rfl (zp1 rfl (qa rfl (zl 2 1 h rfl (qa rfl (zp1 rfl (qa rfl (zp3 rfl ?_))))))))
  by_cases hc6 : (decide ((d.Nets.length : Int) ≤ 30)) = true
  ·replace hF := bifT hc6 hF
   refine qC hc6 (t := 44) rfl (qa rfl (zp1 rfl (qa rfl (zp1 rfl (qa rfl (zp3 rfl ?_))))))
   by_cases hc7 : (decide ((x3.length : Int) ≤ 8)) = true
   ·replace hF := bifT hc7 hF
    refine qC hc7 (t := 49) rfl (qa rfl (zp1 rfl (qa rfl ?_)))
    obtain ⟨r1, hr3, hF⟩ := qd hF
    refine qm r1 h call205 (qeL (h.own 1 rfl) hr3) rfl rfl rfl rfl ?_
    intro w12 h
    refine zp2 rfl ?_
    by_cases hc8 : r1 = true
    ·replace hF := bifT hc8 hF
     refine qC hc8 (t := 53) rfl (qa rfl (zp1 rfl (qa rfl (zl 2 1 h rfl (qa rfl ?_)))))
     obtain ⟨r2, hr4, hF⟩ := qd hF
     refine qm r2 h call205 (qeL ⟨_, _, rfl, (h.oldS s2)⟩ hr4) rfl rfl rfl rfl ?_
     intro w13 h
     refine zp2 rfl ?_
     by_cases hc9 : r2 = true
     ·replace hF := bifT hc9 hF
      refine qC hc9 (t := 58) rfl (qa rfl (zp1 rfl (qa rfl ?_)))
      obtain ⟨r3, hr5, hF⟩ := qd hF
      refine qm r3 h call205 (qeL (h.own 0 rfl) hr5) rfl rfl rfl rfl ?_
      intro w14 h
      exact zp2 rfl (qb (qt qc h hF ⟨rfl, trivial⟩))
     replace hc9 := zb hc9
     replace hF := bifF hc9 hF
     exact qB hc9 (t := 58) rfl (zn2 rfl (zp2 rfl (qb (qt qc h hF ⟨rfl, trivial⟩))))
    replace hc8 := zb hc8
    replace hF := bifF hc8 hF
    exact qB hc8 (t := 53) rfl (zn3 rfl (zp2 rfl (zn2 rfl (zp2 rfl (qb (qt qc h hF ⟨rfl, trivial⟩))))))
   replace hc7 := zb hc7
   replace hF := bifF hc7 hF
   refine qB hc7 (t := 49) rfl (zn2 rfl (zp2 rfl (zn3 rfl (zp2 rfl (zn2 rfl ?_)))))
   exact zp2 rfl (qb (qt qc h hF ⟨rfl, trivial⟩))
  replace hc6 := zb hc6
  replace hF := bifF hc6 hF
  refine qB hc6 (t := 44) rfl (zn3 rfl (zp2 rfl (zn2 rfl (zp2 rfl (zn2 rfl ?_)))))
  exact zn1 rfl (zp2 rfl (zn2 rfl (zp2 rfl (qb (qt qc h hF ⟨rfl, trivial⟩)))))
 replace hc5 := zb hc5
 replace hF := bifF hc5 hF
 refine qB hc5 (t := 38) rfl (zn4 rfl (zp2 rfl (zn3 rfl (zp2 rfl ?_))))
 refine zn2 rfl (zp2 rfl (zn3 rfl (zp2 rfl (zn2 rfl (zp1 rfl ?_)))))
 exact zp1 rfl (qb (qt qc h hF ⟨rfl, trivial⟩))

def qd7 (_ : Nat) (list : (List qJ)) : Option Int :=
 some (list.length : Int)

theorem qif {n : Nat} {w : World} {list : (List qJ)} {cs1 : List Value} (ha1 : GoT.R w (old w) list cs1) {r : Int} (hF : qd7 n list = some r) : RetV Tryz.prog 206 [GoT.v (List qJ) cs1] w r := by
 obtain ⟨p1, k1, rfl, s1⟩ := ha1
 refine qf Tryz.func206 rfl (m := 5) rfl rfl (fun h => ?_)
 rw [qd7] at hF
 exact zSR (zp1 rfl (zNSR (zp3 rfl (qb (qar qc h hF ⟨rfl, trivial⟩)))))

def qeR (_ : Nat) (list : (List ByteArray)) : Option Int :=
 some (list.length : Int)

theorem qiS {n : Nat} {w : World} {list : (List ByteArray)} {cs1 : List Value} (ha1 : GoT.R w (old w) list cs1) {r : Int} (hF : qeR n list = some r) : RetV Tryz.prog 208 [GoT.v (List ByteArray) cs1] w r := by
 obtain ⟨p1, k1, rfl, s1⟩ := ha1
 refine qf Tryz.func208 rfl (m := 5) rfl rfl (fun h => ?_)
 rw [qeR] at hF
 exact zSR (zp1 rfl (zNSR (zp3 rfl (qb (qar qc h hF ⟨rfl, trivial⟩)))))

def qcz (n : Nat) (d : qk) (net : Int) : Option Bool :=
 (qeR n d.Nets).bind fun r1 =>
 (qaD n net 0 (W64 (r1 - 1))).bind fun r2 =>
 some r2

theorem qfm {n : Nat} {w : World} {d : qk} {net : Int} {cs1 : List Value} (ha1 : GoT.R w (old w) d cs1) {r : Bool} (hF : qcz n d net = some r) : RetV Tryz.prog 182 [GoT.v qk cs1, .int .i64 net] w r := by
 obtain ⟨p1, k1, p2, k2, p3, k3, rfl, s1, s2, s3⟩ := qaQ ha1
 refine qf Tryz.func182 rfl (m := 11) rfl rfl (fun h => ?_)
 rw [qcz] at hF
 refine zSR (qS h rfl rfl ?_)
 intro w1 bb1 h
 refine zp1 rfl (zNSR (zp2 rfl (zl 0 1 h rfl ?_)))
 obtain ⟨r1, hr1, hF⟩ := qd hF
 refine qP r1 h call208 (qiS ⟨_, _, rfl, (h.oldS s2)⟩ hr1) rfl rfl rfl rfl ?_
 intro w2 h
 refine zp1 rfl ?_
 obtain ⟨r2, hr2, hF⟩ := qd hF
 refine qm r2 h call86 (qam hr2) rfl rfl rfl rfl ?_
 intro w3 h
 exact zp1 rfl (qb (qt qc h hF ⟨rfl, trivial⟩))

def qcb (n : Nat) (net : Int) (v0 : qk) : Option Bool :=
 (qcz n v0 net).bind fun r1 =>
 some (!r1)

theorem qhA {n : Nat} {w : World} {net : Int} {v0 : qk} {p1 : Option Addr} (ha1 : GoT.R w (old w) (some v0) [.pointer p1]) {r : Bool} (hF : qcb n net v0 = some r) : RetV Tryz.prog 207 [.int .i64 net, .pointer p1] w r := by
 obtain ⟨b1, o_1, cs1, rfl, -, hr1, hc1⟩ := PtR.get ha1 rfl
 obtain ⟨p2, k1, p3, k2, p4, k3, rfl, s1, s2, s3⟩ := qaQ hr1
 refine qf Tryz.func207 rfl (m := 8) rfl rfl (fun h => ?_)
 rw [qcb] at hF
 refine zSR (zp1 rfl (zNSR (zc 0 (hc1.below h.below) rfl (zp1 rfl ?_))))
 obtain ⟨r1, hr2, hF⟩ := qd hF
 refine qm r1 h call182 (qfm (qb6 v0 (h.oldS s1) (h.oldS s2) (h.oldS s3)) hr2) rfl rfl rfl rfl ?_
 intro w1 h
 exact zp2 rfl (qb (qt qc h hF ⟨rfl, trivial⟩))

def qK (s : (List Int)) (f_0 : qk) : Nat → Int → Option (Flow Int Int)
 | 0, _ => none
 | n + 1, i1 =>
  bif decide (i1 < (s.length : Int)) then
   (idx s i1).bind fun y1 =>
   (qcb n y1 f_0).bind fun r1 =>
   bif r1 then
    some (.ret i1)
   else
    qK s f_0 n (W64 (i1 + 1))
  else
   some (.nxt i1)

def qav (n : Nat) (s : (List Int)) (f_0 : qk) : Option Int :=
 (qK s f_0 n 0).bind fun o => match o with
 | .ret r => some r
 | .nxt _ =>
  some (-1)

theorem qdU {n : Nat} {w : World} {s : (List Int)} {f_0 : qk} {cs1 : List Value} (ha1 : GoT.R w (old w) s cs1) {p2 : Option Addr} (ha2 : GoT.R w (old w) (some f_0) [.pointer p2]) {r : Int} (hF : qav n s f_0 = some r) : RetV Tryz.prog 190 [GoT.v (List Int) cs1, .func (.func 207) #[] #[.pointer p2]] w r := by
 obtain ⟨p1, k1, rfl, s1⟩ := ha1
 obtain ⟨b1, o_1, cs2, rfl, -, hr1, hc1⟩ := PtR.get ha2 rfl
 obtain ⟨p3, k2, p4, k3, p5, k4, rfl, s2, s3, s4⟩ := qaQ hr1
 refine qf Tryz.func190 rfl (m := 19) rfl rfl (fun h => ?_)
 rw [qav] at hF
 refine zSR (zp1 rfl (zNSSR (zp3 rfl (qb ?_))))
 obtain ⟨o1, hF, hK1⟩ := qd hF
 refine qy (qW [(0, _), (1, _), (7, _), (8, _)] ⟨rfl, rfl, rfl, rfl, trivial⟩ ?_)
 refine qI (fun m e w' => ∃ (i1 : Int), qK s f_0 m i1 = some o1 ∧ e = [(0, .slice p1 s.length k1), (1, .func (.func 207) #[] #[.pointer (some ⟨b1, o_1, none⟩)]), (7, .int .i64 (s.length : Int)), (8, .int .i64 i1)] ∧ SH w w' []) n ⟨_, hF, rfl, h⟩ ?_
 rintro m1 e1 w1 ⟨i1, hF, rfl, h⟩
 rcases m1 with _ | m1
 ·rw [qK] at hF
  cases hF
 rw [qK] at hF
 refine zSR (zp1 rfl (zNS ?_))
 refine qp rfl hF ?_ ?_ <;> intro hF
 ·refine zKSBSR (zp2 rfl (zNSR (zp2 rfl ?_)))
  refine zp1 rfl ?_
  obtain ⟨y1, hy1, hF⟩ := qd hF
  have he1 := qg hy1
  obtain ⟨b2, o_2, q1, cs3, hp1, hq1, -, hr2, hc3⟩ := s1.at hy1
  obtain rfl := hr2
  refine zxe hp1 hq1 he1 rfl (zc 0 (hc3.below h.below) rfl ?_)
  obtain ⟨r1, hr3, hF⟩ := qd hF
  refine qm r1 h call207 (qhA (h.old ha2) hr3) rfl rfl rfl rfl ?_
  intro w2 h
  refine qb ?_
  refine qp rfl hF ?_ ?_ <;> intro hF
  ·refine zSR (zp2 rfl (qb ?_))
   obtain rfl := qh hF; replace hF := hK1
   exact qar qc h hF ⟨rfl, trivial⟩
  exact zKER (zp2 rfl (qb (qz m1 [(0, _), (1, _), (7, _), (8, _)] (Nat.lt_succ_self m1) ⟨rfl, rfl, rfl, rfl, trivial⟩ ⟨_, hF, rfl, h⟩)))
 refine qG rfl ?_
 obtain rfl := qh hF; replace hF := hK1
 exact zSR (zp1 rfl (qb (qar qc h hF ⟨rfl, trivial⟩)))

def qao (n : Nat) (s : (List Int)) (f_0 : qk) : Option Bool :=
 (qav n s f_0).bind fun r1 =>
 some (decide (r1 ≥ 0))

theorem qdy {n : Nat} {w : World} {s : (List Int)} {f_0 : qk} {cs1 : List Value} (ha1 : GoT.R w (old w) s cs1) {p2 : Option Addr} (ha2 : GoT.R w (old w) (some f_0) [.pointer p2]) {r : Bool} (hF : qao n s f_0 = some r) : RetV Tryz.prog 155 [GoT.v (List Int) cs1, .func (.func 207) #[] #[.pointer p2]] w r := by
 obtain ⟨p1, k1, rfl, s1⟩ := ha1
 obtain ⟨b1, o_1, cs2, rfl, -, hr1, hc1⟩ := PtR.get ha2 rfl
 obtain ⟨p3, k2, p4, k3, p5, k4, rfl, s2, s3, s4⟩ := qaQ hr1
 refine qf Tryz.func155 rfl (m := 9) rfl rfl (fun h => ?_)
 rw [qao] at hF
 refine zSR (zp1 rfl (zNSR (zp2 rfl ?_)))
 obtain ⟨r1, hr2, hF⟩ := qd hF
 refine qP r1 h call190 (qdU ⟨_, _, rfl, (h.oldS s1)⟩ (h.old ha2) hr2) rfl rfl rfl rfl ?_
 intro w1 h
 exact zp2 rfl (qb (qt qc h hF ⟨rfl, trivial⟩))

def qcx (n : Nat) (d : qk) (l : qA) (x : qq) : Option Bool :=
 (qd7 n l.Cells).bind fun r1 =>
 (qaD n x.Cell 0 (W64 (r1 - 1))).bind fun r2 =>
 bif r2 then
  (idx l.Cells x.Cell).bind fun y1 =>
  bif ((x.Nets.length : Int) == (y1.Pins.length : Int)) then
   (qao n x.Nets d).bind fun r3 =>
   some (!r3)
  else
   some false
 else
  some false

theorem qh2 {n : Nat} {w : World} {d : qk} {l : qA} {x : qq} {cs1 : List Value} (ha1 : GoT.R w (old w) d cs1) {cs2 : List Value} (ha2 : GoT.R w (old w) l cs2) {cs3 : List Value} (ha3 : GoT.R w (old w) x cs3) {r : Bool} (hF : qcx n d l x = some r) : RetV Tryz.prog 181 [GoT.v qk cs1, GoT.v qA cs2, GoT.v qq cs3] w r := by
 obtain ⟨p1, k1, p2, k2, p3, k3, rfl, s1, s2, s3⟩ := qaQ ha1
 obtain ⟨p4, k4, rfl, s4⟩ := qbR ha2
 obtain ⟨p5, k5, rfl, s5⟩ := qaf ha3
 refine qf Tryz.func181 rfl (m := 35) rfl rfl (fun h => ?_)
 rw [qcx] at hF
 refine zSR (qS h rfl rfl ?_)
 intro w1 bb1 h
 refine qS h rfl rfl ?_
 intro w2 bb2 h
 refine qS h rfl rfl ?_
 intro w3 bb3 h
 refine zp1 rfl (zNS ?_)
 refine qcf rfl (by kernel_rfl) ?_
 refine zd1 rfl ?_
 refine zdl 0 1 h rfl ?_
 refine zd1 rfl ?_
 refine zdl 1 0 h rfl ?_
 obtain ⟨r1, hr1, hF⟩ := qd hF
 refine qb4 r1 (vsI _) call206 (fun _ hb => qif ⟨_, _, rfl, ((h.ext hb).oldS s4)⟩ hr1) rfl rfl rfl rfl ?_
 refine zd1 rfl ?_
 obtain ⟨r2, hr2, hF⟩ := qd hF
 refine qb4 r2 (vsB _) call86 (fun _ hb => qam  hr2) rfl rfl rfl rfl ?_
 refine zd1 rfl ?_
 by_cases hc1 : r2 = true
 ·replace hF := bifT hc1 hF
  refine qc0 hc1 (t := 14) rfl (qi rfl (zd1 rfl (qi rfl ?_)))
  refine zdl 0 2 h rfl ?_
  refine qi rfl (zd1 rfl (qi rfl (zd1 rfl (qi rfl ?_))))
  refine zdl 1 0 h rfl ?_
  refine qi rfl (zd1 rfl (qi rfl ?_))
  refine zdl 0 1 h rfl ?_
  refine qi rfl ?_
  obtain ⟨y1, hy1, hF⟩ := qd hF
  have he1 := qg hy1
  obtain ⟨b1, o_1, q1, cs4, hp1, hq1, -, hr3, hc2⟩ := s4.at hy1
  obtain ⟨p6, k6, p7, k7, p8, k8, rfl, s6, s7, s8⟩ := qak hr3
  refine zdxe hp1 hq1 he1 rfl ?_
  refine qi rfl (zd1 rfl (qi rfl ?_))
  refine zdc 2 (hc2.below h.below) rfl ?_
  refine qi rfl (zd1 rfl (qi rfl (zd3 rfl ?_)))
  by_cases hc3 : ((x.Nets.length : Int) == (y1.Pins.length : Int)) = true
  ·replace hF := bifT hc3 hF
   refine qc0 hc3 (t := 28) rfl (qi rfl (zd1 rfl (qi rfl ?_)))
   refine zdl 0 2 h rfl ?_
   refine qi rfl (zd1 rfl (qi rfl ?_))
   obtain ⟨r3, hr4, hF⟩ := qd hF
   refine qb4 r3 (vsB _) call155 (fun _ hb => qdy ⟨_, _, rfl, ((h.ext hb).oldS s5)⟩ (qhZ (x := d) 2 (h.ext hb) rfl ((h.ext hb).old ha1)) hr4) rfl rfl rfl rfl ?_
   refine qi rfl (zd3 rfl ?_)
   refine qbc (fun w4 hb => ?_)
   replace h := h.ext hb
   clear hb
   exact qt qc h hF ⟨rfl, trivial⟩
  replace hc3 := zb hc3
  replace hF := bifF hc3 hF
  refine qc7 hc3 (t := 28) rfl (qj rfl rfl rfl (qj rfl rfl rfl (qj rfl rfl rfl (qj rfl rfl rfl (qj rfl rfl rfl (zd2 rfl ?_))))))
  refine qbc (fun w5 hb => ?_)
  replace h := h.ext hb
  clear hb
  exact qt qc h hF ⟨rfl, trivial⟩
 replace hc1 := zb hc1
 replace hF := bifF hc1 hF
 refine qc7 hc1 (t := 14) rfl (qj rfl rfl rfl (qj rfl rfl rfl (qj rfl rfl rfl (qj rfl rfl rfl (qj rfl rfl rfl (qj rfl rfl rfl (qj rfl rfl rfl (qj rfl rfl rfl (qj rfl rfl rfl (qj rfl rfl rfl (qj rfl rfl rfl ?_)))))))))))
 refine qj rfl rfl rfl (zd2 rfl (qj rfl rfl rfl (qj rfl rfl rfl (qj rfl rfl rfl (qj rfl rfl rfl (qj rfl rfl rfl (zd2 rfl ?_)))))))
 refine qbc (fun w6 hb => ?_)
 replace h := h.ext hb
 clear hb
 exact qt qc h hF ⟨rfl, trivial⟩

def qfZ (_ : Nat) (a_n : Int) : Option Bool :=
 some (a_n != 1)

theorem qjQ {n : Nat} {w : World} {a_n : Int}  {r : Bool} (hF : qfZ n a_n = some r) : RetV Tryz.prog 184 [.int .i64 a_n] w r := by
 refine qf Tryz.func184 rfl (m := 5) rfl rfl (fun h => ?_)
 rw [qfZ] at hF
 exact zSR (zp1 rfl (zNSR (zp3 rfl (qb (qt qc h hF ⟨rfl, trivial⟩)))))

def qV (s : (List Int)) : Nat → Int → Option (Flow Int Int)
 | 0, _ => none
 | n + 1, i1 =>
  bif decide (i1 < (s.length : Int)) then
   (idx s i1).bind fun y1 =>
   (qfZ n y1).bind fun r1 =>
   bif r1 then
    some (.ret i1)
   else
    qV s n (W64 (i1 + 1))
  else
   some (.nxt i1)

def qbj (n : Nat) (s : (List Int)) : Option Int :=
 (qV s n 0).bind fun o => match o with
 | .ret r => some r
 | .nxt _ =>
  some (-1)

theorem qfg {n : Nat} {w : World} {s : (List Int)} {cs1 : List Value} (ha1 : GoT.R w (old w) s cs1) {r : Int} (hF : qbj n s = some r) : RetV Tryz.prog 209 [GoT.v (List Int) cs1, .func (.func 184) #[] #[]] w r := by
 obtain ⟨p1, k1, rfl, s1⟩ := ha1
 refine qf Tryz.func209 rfl (m := 19) rfl rfl (fun h => ?_)
 rw [qbj] at hF
 refine zSR (zp1 rfl (zNSSR (zp3 rfl (qb ?_))))
 obtain ⟨o1, hF, hK1⟩ := qd hF
 refine qy (qW [(0, _), (1, _), (7, _), (8, _)] ⟨rfl, rfl, rfl, rfl, trivial⟩ ?_)
 refine qI (fun m e w' => ∃ (i1 : Int), qV s m i1 = some o1 ∧ e = [(0, .slice p1 s.length k1), (1, .func (.func 184) #[] #[]), (7, .int .i64 (s.length : Int)), (8, .int .i64 i1)] ∧ SH w w' []) n ⟨_, hF, rfl, h⟩ ?_
 rintro m1 e1 w1 ⟨i1, hF, rfl, h⟩
 rcases m1 with _ | m1
 ·rw [qV] at hF
  cases hF
 rw [qV] at hF
 refine zSR (zp1 rfl (zNS ?_))
 refine qp rfl hF ?_ ?_ <;> intro hF
 ·refine zKSBSR (zp2 rfl (zNSR (zp2 rfl ?_)))
  refine zp1 rfl ?_
  obtain ⟨y1, hy1, hF⟩ := qd hF
  have he1 := qg hy1
  obtain ⟨b1, o_1, q1, cs2, hp1, hq1, -, hr1, hc2⟩ := s1.at hy1
  obtain rfl := hr1
  refine zxe hp1 hq1 he1 rfl (zc 0 (hc2.below h.below) rfl ?_)
  obtain ⟨r1, hr2, hF⟩ := qd hF
  refine qm r1 h call184 (qjQ hr2) rfl rfl rfl rfl ?_
  intro w2 h
  refine qb ?_
  refine qp rfl hF ?_ ?_ <;> intro hF
  ·refine zSR (zp2 rfl (qb ?_))
   obtain rfl := qh hF; replace hF := hK1
   exact qar qc h hF ⟨rfl, trivial⟩
  exact zKER (zp2 rfl (qb (qz m1 [(0, _), (1, _), (7, _), (8, _)] (Nat.lt_succ_self m1) ⟨rfl, rfl, rfl, rfl, trivial⟩ ⟨_, hF, rfl, h⟩)))
 refine qG rfl ?_
 obtain rfl := qh hF; replace hF := hK1
 exact zSR (zp1 rfl (qb (qar qc h hF ⟨rfl, trivial⟩)))

def qa8 (n : Nat) (s : (List Int)) : Option Bool :=
 (qbj n s).bind fun r1 =>
 some (decide (r1 ≥ 0))

theorem qeX {n : Nat} {w : World} {s : (List Int)} {cs1 : List Value} (ha1 : GoT.R w (old w) s cs1) {r : Bool} (hF : qa8 n s = some r) : RetV Tryz.prog 183 [GoT.v (List Int) cs1, .func (.func 184) #[] #[]] w r := by
 obtain ⟨p1, k1, rfl, s1⟩ := ha1
 refine qf Tryz.func183 rfl (m := 9) rfl rfl (fun h => ?_)
 rw [qa8] at hF
 refine zSR (zp1 rfl (zNSR (zp2 rfl ?_)))
 obtain ⟨r1, hr1, hF⟩ := qd hF
 refine qP r1 h call209 (qfg ⟨_, _, rfl, (h.oldS s1)⟩ hr1) rfl rfl rfl rfl ?_
 intro w1 h
 exact zp2 rfl (qb (qt qc h hF ⟨rfl, trivial⟩))

def qbz (a_1 : qk) : Nat → (List Int) → Int → Option (Flow Bool ((List Int) × Int))
 | 0, _, _ => none
 | n + 1, x3, i2 =>
  bif decide (i2 < (a_1.Ports.length : Int)) then
   (idx a_1.Ports i2).bind fun y5 =>
   (
    bif (y5.Dir != 1) then
     bif (y5.Dir != 2) then
      some true
     else
      (qcz n a_1 y5.Net).bind fun r2 =>
      some (!r2)
    else
     (qcz n a_1 y5.Net).bind fun r3 =>
     some (!r3)).bind fun b7 =>
   bif b7 then
    some (.ret false)
   else
    bif (y5.Dir == 1) then
     (idx x3 y5.Net).bind fun y6 =>
     (idx x3 y5.Net).bind fun _ =>
     qbz a_1 n (setS x3 y5.Net (W64 (y6 + 1))) (W64 (i2 + 1))
    else
     qbz a_1 n x3 (W64 (i2 + 1))
  else
   some (.nxt (x3, i2))

def qb0 (a_0 : qA) (a_1 : qk) : Nat → (List Int) → Int → Option (Flow Bool ((List Int) × Int))
 | 0, _, _ => none
 | n + 1, x2, i1 =>
  bif decide (i1 < (a_1.Instances.length : Int)) then
   (idx a_1.Instances i1).bind fun y1 =>
   (qcx n a_1 a_0 y1).bind fun r1 =>
   bif (!r1) then
    some (.ret false)
   else
    (idx y1.Nets (W64 ((y1.Nets.length : Int) - 1))).bind fun y2 =>
    (idx x2 y2).bind fun y3 =>
    (idx x2 y2).bind fun _ =>
    qb0 a_0 a_1 n (setS x2 y2 (W64 (y3 + 1))) (W64 (i1 + 1))
  else
   some (.nxt (x2, i1))

def qfT (n : Nat) (a_0 : qA) (a_1 : qk) : Option Bool :=
 (
  (qfp n a_0).bind fun r5 =>
  bif (!r5) then
   some true
  else
   (qdc n a_1).bind fun r6 =>
   some (!r6)).bind fun b1 =>
 bif b1 then
  some false
 else
  (mkS (a_1.Nets.length : Int) (0 : Int)).bind fun x1 =>
  (qb0 a_0 a_1 n x1 0).bind fun o => match o with
  | .ret r => some r
  | .nxt (x2, _) =>
   (qbz a_1 n x2 0).bind fun o => match o with
   | .ret r => some r
   | .nxt (x3, _) =>
    (qa8 n x3).bind fun r4 =>
    some (!r4)

theorem qkx {n : Nat} {w : World} {a_0 : qA} {a_1 : qk} {cs1 : List Value} (ha1 : GoT.R w (old w) a_0 cs1) {cs2 : List Value} (ha2 : GoT.R w (old w) a_1 cs2) {r : Bool} (hF : qfT n a_0 a_1 = some r) : RetV Tryz.prog 147 [GoT.v qA cs1, GoT.v qk cs2] w r := by
 obtain ⟨p1, k1, rfl, s1⟩ := qbR ha1
 obtain ⟨p2, k2, p3, k3, p4, k4, rfl, s2, s3, s4⟩ := qaQ ha2
 refine qf Tryz.func147 rfl (m := 84) rfl rfl (fun h => ?_)
 rw [qfT] at hF
 refine zSR (qS h rfl rfl ?_)
 intro w1 bb1 h
 refine qS h rfl rfl ?_
 intro w2 bb2 h
 refine zp1 rfl (zNSS ?_)
 obtain ⟨KF2, hKF2, o4, hF, hK4⟩ := bindE hF
 refine qdS (fun e w' => ∃ (b1 : Bool), KF2 b1 = some r ∧ e = [(2, .pointer (some ⟨bb1, 0, none⟩)), (3, .pointer (some ⟨bb2, 0, none⟩)), (17, .bool b1)] ∧ SH w w' [Ch.box bb2 [.slice p2 a_1.Instances.length k2, .slice p3 a_1.Nets.length k3, .slice p4 a_1.Ports.length k4] 47, Ch.box bb1 [.slice p1 a_0.Cells.length k1] 43]) ?_ ?_
 ·refine qx (zl 1 0 h rfl ?_)
  obtain ⟨r5, hr12, hF⟩ := qd hF
  refine qm r5 h call179 (qkj (h.old ha1) hr12) rfl rfl rfl rfl ?_
  intro w17 h
  refine zp2 rfl ?_
  by_cases hc16 : (!r5) = true
  ·replace hF := bifT hc16 hF
   refine qC hc16 (t := 13) rfl (zn3 rfl (zp1 rfl (qb ?_)))
   obtain rfl := qh hF
   exact qw [(2, _), (3, _), (17, _)] ⟨rfl, rfl, rfl, trivial⟩ ⟨_, hK4, rfl, h⟩
  replace hc16 := zb hc16
  replace hF := bifF hc16 hF
  refine qB hc16 (t := 13) rfl (qa rfl (zl 0 0 h rfl (qa rfl ?_)))
  obtain ⟨r6, hr13, hF⟩ := qd hF
  refine qm r6 h call180 (qiw (h.old ha2) hr13) rfl rfl rfl rfl ?_
  intro w18 h
  refine qa rfl (zp2 rfl (qb ?_))
  obtain rfl := qh hF
  exact qw [(2, _), (3, _), (17, _)] ⟨rfl, rfl, rfl, trivial⟩ ⟨_, hK4, rfl, h⟩
 rintro e4 w19 ⟨b1, hF, rfl, h⟩
 subst hKF2
 refine qp rfl hF ?_ ?_ <;> intro hF
 ·exact zSR (zp1 rfl (qb (qt qc h hF ⟨rfl, trivial⟩)))
 refine zKSR (zp1 rfl (zl 0 1 h rfl (zp1 rfl ?_)))
 obtain ⟨x1, hx1, hF⟩ := qd hF
 obtain ⟨g1, g2, hx1⟩ := qda hx1
 refine qer qc Int h rfl rfl rfl rfl rfl rfl rfl rfl rfl g1 g2 hx1 rfl ?_
 intro w3 S1 p5 h
 refine zp1 rfl (zNSSR (zp1 rfl (zl 1 0 h rfl (zp2 rfl (qb ?_)))))
 obtain ⟨o1, hF, hK1⟩ := qd hF
 refine qy (qW [(2, _), (3, _), (5, _), (23, _), (24, _), (25, _)] ⟨rfl, rfl, rfl, rfl, rfl, rfl, trivial⟩ ?_)
 refine qI (fun m e w' => ∃ (x2 : (List Int)) (i1 : Int), qb0 a_0 a_1 m x2 i1 = some o1 ∧ e = [(2, .pointer (some ⟨bb1, 0, none⟩)), (3, .pointer (some ⟨bb2, 0, none⟩)), (5, .slice p5 x1.length x1.length), (23, .slice p2 a_1.Instances.length k2), (24, .int .i64 (a_1.Instances.length : Int)), (25, .int .i64 i1)] ∧ SH w w' [Ch.own S1 (x2 : List Int) [.slice p5 x1.length x1.length], Ch.box bb2 [.slice p2 a_1.Instances.length k2, .slice p3 a_1.Nets.length k3, .slice p4 a_1.Ports.length k4] 47, Ch.box bb1 [.slice p1 a_0.Cells.length k1] 43]) n ⟨_, _, hF, rfl, h⟩ ?_
 rintro m1 e1 w4 ⟨x2, i1, hF, rfl, h⟩
 rcases m1 with _ | m1
 ·rw [qb0] at hF
  cases hF
 rw [qb0] at hF
 refine zSR (zp1 rfl (zNS ?_))
 refine qp rfl hF ?_ ?_ <;> intro hF
 ·refine zKSBSR ?_
  obtain ⟨y1, hy1, hF⟩ := qd hF
  have he1 := qg hy1
  obtain ⟨b2, o_1, q1, cs3, hp1, hq1, -, hr1, hc3⟩ := s2.at hy1
  obtain ⟨p6, k5, rfl, s5⟩ := qaf hr1
  refine zxe hp1 hq1 he1 rfl (zc 0 (hc3.below h.below) rfl (qY qc h rfl rfl rfl ?_))
  intro w5 bb3 h
  refine zs 0 h rfl ?_
  intro w6 h
  refine zNSSR (zl 2 0 h rfl (zl 3 0 h rfl (zl 0 0 h rfl ?_)))
  obtain ⟨r1, hr2, hF⟩ := qd hF
  refine qm r1 h call181 (qh2 (h.old ha2) (h.old ha1) (qe6 y1 (h.oldS s5)) hr2) rfl rfl rfl rfl ?_
  intro w7 h
  refine zp1 rfl (qb ?_)
  refine qp rfl hF ?_ ?_ <;> intro hF
  ·refine zSR (zp1 rfl (qb ?_))
   obtain rfl := qh hF; replace hF := hK1
   exact qt qc h hF ⟨rfl, trivial⟩
  refine qdQ (qx (zp2 rfl (zl 0 2 h rfl (zp1 rfl (zl 0 2 h rfl (zp2 rfl ?_))))))
  obtain ⟨y2, hy2, hF⟩ := qd hF
  have he2 := qg hy2
  obtain ⟨b3, o_2, q2, cs4, hp2, hq2, -, hr3, hc5⟩ := s5.at hy2
  obtain rfl := hr3
  refine zxe hp2 hq2 he2 rfl (zc 0 (hc5.below h.below) rfl ?_)
  obtain ⟨y3, hy3, hF⟩ := qd hF
  have he3 := qg hy3
  obtain ⟨b4, o_3, q3, cs5, hp3, hq3, -, hr4, hc6⟩ := (h.sl 1 rfl).1.at hy3
  obtain rfl := hr4
  refine zx hp3 hq3 ⟨he3.1, qbo he3.2.1 (h.sl 1 rfl).2⟩ rfl (zc 0 hc6 rfl (zp1 rfl ?_))
  obtain ⟨y4, hy4, hF⟩ := qd hF
  have he4 := qg hy4
  obtain ⟨b5, o_4, q4, cs6, hp4, hq4, -, hr5, hc7⟩ := (h.sl 1 rfl).1.at hy4
  obtain rfl := hr5
  refine zx hp4 hq4 ⟨he4.1, qbo he4.2.1 (h.sl 1 rfl).2⟩ rfl (qfe qc 1 0 (W64 (y3 + 1)) h rfl hy4 hp4 hq4 rfl hc7 rfl rfl rfl rfl rfl rfl rfl ?_)
  intro w8 h
  refine zNER (zp2 rfl (qb ?_))
  replace h := h.pick [1, 2, 3] rfl
  exact qz m1 [(2, _), (3, _), (5, _), (23, _), (24, _), (25, _)] (Nat.lt_succ_self m1) ⟨rfl, rfl, rfl, rfl, rfl, rfl, trivial⟩ ⟨_, _, hF, rfl, h⟩
 refine qG rfl ?_
 obtain rfl := qh hF; replace hF := hK1
 refine zSSR (zp1 rfl (zl 1 2 h rfl (zp2 rfl (qb ?_))))
 obtain ⟨o2, hF, hK2⟩ := qd hF
 refine qy ?_
 replace h := h.pick [0, 1] rfl
 refine qW [(3, _), (5, _), (49, _), (50, _), (51, _)] ⟨rfl, rfl, rfl, rfl, rfl, trivial⟩ ?_
 refine qI (fun m e w' => ∃ (x3 : (List Int)) (i2 : Int), qbz a_1 m x3 i2 = some o2 ∧ e = [(3, .pointer (some ⟨bb2, 0, none⟩)), (5, .slice p5 x1.length x1.length), (49, .slice p4 a_1.Ports.length k4), (50, .int .i64 (a_1.Ports.length : Int)), (51, .int .i64 i2)] ∧ SH w w' [Ch.own S1 (x3 : List Int) [.slice p5 x1.length x1.length], Ch.box bb2 [.slice p2 a_1.Instances.length k2, .slice p3 a_1.Nets.length k3, .slice p4 a_1.Ports.length k4] 47]) n ⟨_, _, hF, rfl, h⟩ ?_
 rintro m2 e2 w9 ⟨x3, i2, hF, rfl, h⟩
 rcases m2 with _ | m2
 ·rw [qbz] at hF
  cases hF
 rw [qbz] at hF
 refine zSR (zp1 rfl (zNS ?_))
 refine qp rfl hF ?_ ?_ <;> intro hF
 ·refine zKSBSR ?_
  obtain ⟨y5, hy5, hF⟩ := qd hF
  have he5 := qg hy5
  obtain ⟨b6, o_5, q5, cs7, hp5, hq5, -, hr6, hc9⟩ := s4.at hy5
  obtain rfl := qbk hr6
  refine zxe hp5 hq5 he5 rfl (zc 0 (hc9.below h.below) rfl (qY qc h rfl rfl rfl ?_))
  intro w10 bb4 h
  refine zs 0 h rfl ?_
  intro w11 h
  replace h : SH _ _ [Ch.box bb4 [.string y5.Name, .int .i64 y5.Dir, .int .i64 y5.Net] 187, Ch.own S1 (x3 : List Int) [.slice p5 x1.length x1.length], Ch.box bb2 [.slice p2 a_1.Instances.length k2, .slice p3 a_1.Nets.length k3, .slice p4 a_1.Ports.length k4] 47] := h
  refine zNSS ?_
  obtain ⟨KF1, hKF1, o3, hF, hK3⟩ := bindE hF
  refine qdS (fun e w' => ∃ (b7 : Bool), KF1 b7 = some o2 ∧ e = [(3, .pointer (some ⟨bb2, 0, none⟩)), (5, .slice p5 x1.length x1.length), (9, .pointer (some ⟨bb4, 0, none⟩)), (49, .slice p4 a_1.Ports.length k4), (50, .int .i64 (a_1.Ports.length : Int)), (51, .int .i64 i2), (69, .bool b7)] ∧ SH w w' [Ch.box bb4 [.string y5.Name, .int .i64 y5.Dir, .int .i64 y5.Net] 187, Ch.own S1 (x3 : List Int) [.slice p5 x1.length x1.length], Ch.box bb2 [.slice p2 a_1.Instances.length k2, .slice p3 a_1.Nets.length k3, .slice p4 a_1.Ports.length k4] 47]) ?_ ?_
  ·refine qx (zp1 rfl (zl 0 1 h rfl (zp2 rfl ?_)))
   by_cases hc14 : (y5.Dir != 1) = true
   ·replace hF := bifT hc14 hF
    refine qC hc14 (t := 58) rfl (qa rfl (zp1 rfl (qa rfl (zl 0 1 h rfl (qa rfl (zp3 rfl ?_))))))
    by_cases hc15 : (y5.Dir != 2) = true
    ·replace hF := bifT hc15 hF
     refine qC hc15 (t := 63) rfl (zn5 rfl (zp1 rfl (qb ?_)))
     obtain rfl := qh hF
     exact qw [(3, _), (5, _), (9, _), (49, _), (50, _), (51, _), (69, _)] ⟨rfl, rfl, rfl, rfl, rfl, rfl, rfl, trivial⟩ ⟨_, hK3, rfl, h⟩
    replace hc15 := zb hc15
    replace hF := bifF hc15 hF
    refine qB hc15 (t := 63) rfl (qa rfl (zl 2 0 h rfl (qa rfl (zp1 rfl (qa rfl (zl 0 2 h rfl (qa rfl ?_)))))))
    obtain ⟨r2, hr9, hF⟩ := qd hF
    refine qm r2 h call182 (qfm (h.old ha2) hr9) rfl rfl rfl rfl ?_
    intro w13 h
    refine qa rfl (zp2 rfl (qb ?_))
    obtain rfl := qh hF
    exact qw [(3, _), (5, _), (9, _), (49, _), (50, _), (51, _), (69, _)] ⟨rfl, rfl, rfl, rfl, rfl, rfl, rfl, trivial⟩ ⟨_, hK3, rfl, h⟩
   replace hc14 := zb hc14
   replace hF := bifF hc14 hF
   refine qB hc14 (t := 58) rfl (zn3 rfl (zp2 rfl (qa rfl (zl 2 0 h rfl (qa rfl (zp1 rfl (qa rfl (zl 0 2 h rfl ?_))))))))
   refine qa rfl ?_
   obtain ⟨r3, hr10, hF⟩ := qd hF
   refine qm r3 h call182 (qfm (h.old ha2) hr10) rfl rfl rfl rfl ?_
   intro w14 h
   refine qa rfl (zp2 rfl (qb ?_))
   obtain rfl := qh hF
   exact qw [(3, _), (5, _), (9, _), (49, _), (50, _), (51, _), (69, _)] ⟨rfl, rfl, rfl, rfl, rfl, rfl, rfl, trivial⟩ ⟨_, hK3, rfl, h⟩
  rintro e3 w15 ⟨b7, hF, rfl, h⟩
  subst hKF1
  refine qp rfl hF ?_ ?_ <;> intro hF
  ·refine zSR (zp1 rfl (qb ?_))
   obtain rfl := qh hF; replace hF := hK2
   exact qt qc h hF ⟨rfl, trivial⟩
  refine zKSR (zp1 rfl (zl 0 1 h rfl (zp1 rfl (qb ?_))))
  refine qp rfl hF ?_ ?_ <;> intro hF
  ·refine qx (zp2 rfl (zl 0 2 h rfl ?_))
   obtain ⟨y6, hy6, hF⟩ := qd hF
   have he6 := qg hy6
   obtain ⟨b8, o_6, q6, cs8, hp6, hq6, -, hr7, hc12⟩ := (h.sl 1 rfl).1.at hy6
   obtain rfl := hr7
   refine zx hp6 hq6 ⟨he6.1, qbo he6.2.1 (h.sl 1 rfl).2⟩ rfl (zc 0 hc12 rfl (zp1 rfl ?_))
   obtain ⟨y7, hy7, hF⟩ := qd hF
   have he7 := qg hy7
   obtain ⟨b9, o_7, q7, cs9, hp7, hq7, -, hr8, hc13⟩ := (h.sl 1 rfl).1.at hy7
   obtain rfl := hr8
   refine zx hp7 hq7 ⟨he7.1, qbo he7.2.1 (h.sl 1 rfl).2⟩ rfl (qfe qc 1 0 (W64 (y6 + 1)) h rfl hy7 hp7 hq7 rfl hc13 rfl rfl rfl rfl rfl rfl rfl ?_)
   intro w12 h
   refine zNER (zp2 rfl (qb ?_))
   replace h := h.pick [1, 2] rfl
   exact qz m2 [(3, _), (5, _), (49, _), (50, _), (51, _)] (Nat.lt_succ_self m2) ⟨rfl, rfl, rfl, rfl, rfl, trivial⟩ ⟨_, _, hF, rfl, h⟩
  refine zKER (zp2 rfl (qb ?_))
  replace h := h.pick [1, 2] rfl
  exact qz m2 [(3, _), (5, _), (49, _), (50, _), (51, _)] (Nat.lt_succ_self m2) ⟨rfl, rfl, rfl, rfl, rfl, trivial⟩ ⟨_, _, hF, rfl, h⟩
 refine qG rfl ?_
 obtain rfl := qh hF; replace hF := hK2
 refine zSR (zp1 rfl ?_)
 obtain ⟨r4, hr11, hF⟩ := qd hF
 refine qm r4 h call183 (qeX (h.own 0 rfl) hr11) rfl rfl rfl rfl ?_
 intro w16 h
 exact zp2 rfl (qb (qt qc h hF ⟨rfl, trivial⟩))

def qa1 (i1 : Int) (y1 : qq) : Nat → (List Tplace) → Int → Option ((List Tplace) × Int)
 | 0, _, _ => none
 | n + 1, x2, i2 =>
  bif decide (i2 < (y1.Nets.length : Int)) then
   (idx y1.Nets i2).bind fun y2 =>
   (appS x2 ([(⟨i1, i2, y2, (i2 == (W64 ((y1.Nets.length : Int) - 1)))⟩ : Tplace)] : List Tplace)).bind fun x3 =>
   qa1 i1 y1 n x3 (W64 (i2 + 1))
  else
   some (x2, i2)

def qa0 (d : qk) : Nat → (List Tplace) → Int → Option ((List Tplace) × Int)
 | 0, _, _ => none
 | n + 1, x4, i3 =>
  bif decide (i3 < (d.Ports.length : Int)) then
   (idx d.Ports i3).bind fun y3 =>
   (appS x4 ([(⟨(-1), i3, y3.Net, (y3.Dir == 1)⟩ : Tplace)] : List Tplace)).bind fun x5 =>
   qa0 d n x5 (W64 (i3 + 1))
  else
   some (x4, i3)

def qaZ (d : qk) : Nat → (List Tplace) → Int → Option ((List Tplace) × Int)
 | 0, _, _ => none
 | n + 1, x1, i1 =>
  bif decide (i1 < (d.Instances.length : Int)) then
   (idx d.Instances i1).bind fun y1 =>
   (qa1 i1 y1 n x1 0).bind fun o => match o with
   | (x2, _) =>
    qaZ d n x2 (W64 (i1 + 1))
  else
   some (x1, i1)

def qbM (n : Nat) (d : qk) : Option (List Tplace) :=
 (qaZ d n ([] : List Tplace) 0).bind fun o => match o with
 | (x1, _) =>
  (qa0 d n x1 0).bind fun o => match o with
  | (x4, _) =>
   some x4

theorem qd4 {n : Nat} {w : World} {d : qk} {cs1 : List Value} (ha1 : GoT.R w (old w) d cs1) {r : (List Tplace)} (hF : qbM n d = some r) : RetV Tryz.prog 148 [GoT.v qk cs1] w r := by
 obtain ⟨p1, k1, p2, k2, p3, k3, rfl, s1, s2, s3⟩ := qaQ ha1
 refine qf Tryz.func148 rfl (m := 61) rfl rfl (fun h => ?_)
 rw [qbM] at hF
 refine zSR (qS h rfl rfl ?_)
 intro w1 bb1 h
 refine zp1 rfl (zNSR (zp1 rfl (zNSSR (zp1 rfl (zl 0 0 h rfl (zp1 rfl ?_))))))
 refine zp1 rfl (qb ?_)
 replace h := h.nil (α := Tplace)
 obtain ⟨o1, hF, hK1⟩ := qd hF
 refine qy (qW [(1, _), (3, _), (11, _), (12, _), (13, _)] ⟨rfl, rfl, rfl, rfl, rfl, trivial⟩ ?_)
 refine qI (fun m e w' => ∃ (S1 : Nat → Prop) (p4 : Option Addr) (ln1 : Nat) (k4 : Nat) (x1 : (List Tplace)) (i1 : Int), qaZ d m x1 i1 = some o1 ∧ e = [(1, .pointer (some ⟨bb1, 0, none⟩)), (3, .slice p4 ln1 k4), (11, .slice p1 d.Instances.length k1), (12, .int .i64 (d.Instances.length : Int)), (13, .int .i64 i1)] ∧ SH w w' [Ch.own S1 (x1 : List Tplace) [.slice p4 ln1 k4], Ch.box bb1 [.slice p1 d.Instances.length k1, .slice p2 d.Nets.length k2, .slice p3 d.Ports.length k3] 47]) n ⟨_, _, _, _, _, _, hF, rfl, h⟩ ?_
 rintro m1 e1 w2 ⟨S1, p4, ln1, k4, x1, i1, hF, rfl, h⟩
 obtain rfl := (h.sl 0 rfl).2
 rcases m1 with _ | m1
 ·rw [qaZ] at hF
  cases hF
 rw [qaZ] at hF
 refine zSR (zp1 rfl (zNS ?_))
 refine qp rfl hF ?_ ?_ <;> intro hF
 ·refine zKSBSR (zp1 rfl ?_)
  obtain ⟨y1, hy1, hF⟩ := qd hF
  have he1 := qg hy1
  obtain ⟨b1, o_1, q1, cs2, hp1, hq1, -, hr1, hc2⟩ := s1.at hy1
  obtain ⟨p5, k5, rfl, s4⟩ := qaf hr1
  refine zxe hp1 hq1 he1 rfl (zc 0 (hc2.below h.below) rfl (qY qc h rfl rfl rfl ?_))
  intro w3 bb2 h
  refine zp1 rfl (zs 0 h rfl ?_)
  intro w4 h
  replace h : SH _ _ [Ch.box bb2 [.string y1.Name, .int .i64 y1.Cell, .slice p5 y1.Nets.length k5] 185, Ch.own S1 (x1 : List Tplace) [.slice p4 x1.length k4], Ch.box bb1 [.slice p1 d.Instances.length k1, .slice p2 d.Nets.length k2, .slice p3 d.Ports.length k3] 47] := h
  refine zNSR (zp1 rfl (zl 0 2 h rfl (zp2 rfl (qb ?_))))
  obtain ⟨o2, hF, hK2⟩ := qd hF
  refine qy (qW [(1, _), (3, _), (4, _), (5, _), (11, _), (12, _), (13, _), (19, _), (20, _), (21, _)] ⟨rfl, rfl, rfl, rfl, rfl, rfl, rfl, rfl, rfl, rfl, trivial⟩ ?_)
  refine qI (fun m e w' => ∃ (S2 : Nat → Prop) (p6 : Option Addr) (ln2 : Nat) (k6 : Nat) (x2 : (List Tplace)) (i2 : Int), qa1 i1 y1 m x2 i2 = some o2 ∧ e = [(1, .pointer (some ⟨bb1, 0, none⟩)), (3, .slice p6 ln2 k6), (4, .int .i64 i1), (5, .pointer (some ⟨bb2, 0, none⟩)), (11, .slice p1 d.Instances.length k1), (12, .int .i64 (d.Instances.length : Int)), (13, .int .i64 i1), (19, .slice p5 y1.Nets.length k5), (20, .int .i64 (y1.Nets.length : Int)), (21, .int .i64 i2)] ∧ SH w w' [Ch.box bb2 [.string y1.Name, .int .i64 y1.Cell, .slice p5 y1.Nets.length k5] 185, Ch.own S2 (x2 : List Tplace) [.slice p6 ln2 k6], Ch.box bb1 [.slice p1 d.Instances.length k1, .slice p2 d.Nets.length k2, .slice p3 d.Ports.length k3] 47]) m1 ⟨_, _, _, _, _, _, hF, rfl, h⟩ ?_
  rintro m2 e2 w5 ⟨S2, p6, ln2, k6, x2, i2, hF, rfl, h⟩
  obtain rfl := (h.sl 1 rfl).2
  rcases m2 with _ | m2
  ·rw [qa1] at hF
   cases hF
  rw [qa1] at hF
  refine zSR (zp1 rfl (zNS ?_))
  refine qp rfl hF ?_ ?_ <;> intro hF
  ·refine zKSBSR (zp1 rfl ?_)
   obtain ⟨y2, hy2, hF⟩ := qd hF
   have he2 := qg hy2
   obtain ⟨b2, o_2, q2, cs3, hp2, hq2, -, hr2, hc4⟩ := s4.at hy2
   obtain rfl := hr2
   refine zxe hp2 hq2 he2 rfl (zc 0 (hc4.below h.below) rfl (zp2 rfl (qb (qx (zp5 rfl (zp1 rfl ?_))))))
   refine zl 0 2 h rfl (zp3 rfl (r_v (qeP qc [0, 1, 2, 3] [.tmp 27, .tmp 28, .tmp 29, .tmp 35] rfl rfl rfl rfl rfl rfl rfl rfl) rfl (qa7 qc [.tmp 36] _ ([(⟨i1, i2, y2, (i2 == (W64 ((y1.Nets.length : Int) - 1)))⟩ : Tplace)] : List Tplace) h rfl rfl rfl rfl rfl rfl rfl rfl rfl ⟨(qiH (⟨i1, i2, y2, (i2 == (W64 ((y1.Nets.length : Int) - 1)))⟩ : Tplace)), trivial⟩ rfl ?_)))
   intro w6 p7 S3 h
   obtain ⟨x3, hx1, hF⟩ := qd hF
   obtain ⟨g1, hx1⟩ := qbl hx1
   refine qeE qc 2 h rfl (h.sl 0 rfl).1 (h.sl 0 rfl).2 rfl rfl rfl rfl rfl rfl rfl rfl rfl g1 hx1 rfl ?_
   intro w7 p8 k7 S4 h
   refine zp1 rfl (zNER (zp2 rfl (qb ?_)))
   replace h := h.pick [1, 2, 3] rfl
   exact qz m2 [(1, _), (3, _), (4, _), (5, _), (11, _), (12, _), (13, _), (19, _), (20, _), (21, _)] (Nat.lt_succ_self m2) ⟨rfl, rfl, rfl, rfl, rfl, rfl, rfl, rfl, rfl, rfl, trivial⟩ ⟨_, _, _, _, _, _, hF, rfl, h⟩
  refine qG rfl ?_
  obtain rfl := qh hF; replace hF := hK2
  refine qe1 (qx (zp2 rfl (qb ?_)))
  replace h := h.pick [1, 2] rfl
  exact qz m1 [(1, _), (3, _), (11, _), (12, _), (13, _)] (Nat.lt_succ_self m1) ⟨rfl, rfl, rfl, rfl, rfl, trivial⟩ ⟨_, _, _, _, _, _, hF, rfl, h⟩
 refine qG rfl ?_
 obtain rfl := qh hF; replace hF := hK1
 refine zSSR (zp1 rfl (zl 1 2 h rfl (zp2 rfl (qb ?_))))
 obtain ⟨o3, hF, hK3⟩ := qd hF
 refine qy ?_
 replace h := h.pick [0] rfl
 refine qW [(3, _), (42, _), (43, _), (44, _)] ⟨rfl, rfl, rfl, rfl, trivial⟩ ?_
 refine qI (fun m e w' => ∃ (S5 : Nat → Prop) (p9 : Option Addr) (ln3 : Nat) (k8 : Nat) (x4 : (List Tplace)) (i3 : Int), qa0 d m x4 i3 = some o3 ∧ e = [(3, .slice p9 ln3 k8), (42, .slice p3 d.Ports.length k3), (43, .int .i64 (d.Ports.length : Int)), (44, .int .i64 i3)] ∧ SH w w' [Ch.own S5 (x4 : List Tplace) [.slice p9 ln3 k8]]) n ⟨_, _, _, _, _, _, hF, rfl, h⟩ ?_
 rintro m3 e3 w8 ⟨S5, p9, ln3, k8, x4, i3, hF, rfl, h⟩
 obtain rfl := (h.sl 0 rfl).2
 rcases m3 with _ | m3
 ·rw [qa0] at hF
  cases hF
 rw [qa0] at hF
 refine zSR (zp1 rfl (zNS ?_))
 refine qp rfl hF ?_ ?_ <;> intro hF
 ·refine zKSBSR (zp1 rfl ?_)
  obtain ⟨y3, hy3, hF⟩ := qd hF
  have he3 := qg hy3
  obtain ⟨b3, o_3, q3, cs4, hp3, hq3, -, hr3, hc6⟩ := s3.at hy3
  obtain rfl := qbk hr3
  refine zxe hp3 hq3 he3 rfl (zc 0 (hc6.below h.below) rfl (qY qc h rfl rfl rfl ?_))
  intro w9 bb3 h
  refine zp1 rfl (zs 0 h rfl ?_)
  intro w10 h
  refine qb (qx (zp3 rfl (zl 0 2 h rfl (zp1 rfl (zl 0 1 h rfl (zp1 rfl (r_v (qeP qc [0, 1, 2, 3] [.const (.int .i64 (-1)), .tmp 50, .tmp 52, .tmp 55] rfl rfl rfl rfl rfl rfl rfl rfl) rfl (qa7 qc [.tmp 56] _ ([(⟨(-1), i3, y3.Net, (y3.Dir == 1)⟩ : Tplace)] : List Tplace) h rfl rfl rfl rfl rfl rfl rfl rfl rfl ⟨(qiH (⟨(-1), i3, y3.Net, (y3.Dir == 1)⟩ : Tplace)), trivial⟩ rfl ?_))))))))
  intro w11 p10 S6 h
  obtain ⟨x5, hx2, hF⟩ := qd hF
  obtain ⟨g2, hx2⟩ := qbl hx2
  refine qeE qc 2 h rfl (h.sl 0 rfl).1 (h.sl 0 rfl).2 rfl rfl rfl rfl rfl rfl rfl rfl rfl g2 hx2 rfl ?_
  intro w12 p11 k9 S7 h
  refine zp1 rfl (zNER (zp2 rfl (qb ?_)))
  replace h := h.pick [2] rfl
  exact qz m3 [(3, _), (42, _), (43, _), (44, _)] (Nat.lt_succ_self m3) ⟨rfl, rfl, rfl, rfl, trivial⟩ ⟨_, _, _, _, _, _, hF, rfl, h⟩
 refine qG rfl ?_
 obtain rfl := qh hF; replace hF := hK3
 refine zSR (zp2 rfl (qb ?_))
 obtain rfl := qh hF
 exact qal qc (ρ := (List Tplace)) [GoT.v (List Tplace) [.slice p9 x4.length k8]] h ⟨rfl, trivial⟩ (PV.done h (qaq (qaG 0 h rfl)))

def qaP (a_w : qac) : Nat → Int → Option (Flow Bool Int)
 | 0, _ => none
 | n + 1, i1 =>
  bif decide (i1 < (a_w.Parent.length : Int)) then
   (idx a_w.Parent i1).bind fun y1 =>
   bif (i1 == 0) then
    bif (y1 != (-1)) then
     some (.ret false)
    else
     (idx a_w.Res 0).bind fun y2 =>
     bif (y2 != 0) then
      some (.ret false)
     else
      bif decide (i1 > 0) then
       (qaD n y1 0 (W64 (i1 - 1))).bind fun r1 =>
       bif (!r1) then
        some (.ret false)
       else
        qaP a_w n (W64 (i1 + 1))
      else
       qaP a_w n (W64 (i1 + 1))
   else
    bif decide (i1 > 0) then
     (qaD n y1 0 (W64 (i1 - 1))).bind fun r2 =>
     bif (!r2) then
      some (.ret false)
     else
      qaP a_w n (W64 (i1 + 1))
    else
     qaP a_w n (W64 (i1 + 1))
  else
   some (.nxt i1)

def qeD (n : Nat) (a_w : qac) : Option Bool :=
 (qaP a_w n 0).bind fun o => match o with
 | .ret r => some r
 | .nxt _ =>
  some true

theorem qjv {n : Nat} {w : World} {a_w : qac} {cs1 : List Value} (ha1 : GoT.R w (old w) a_w cs1) {r : Bool} (hF : qeD n a_w = some r) : RetV Tryz.prog 185 [GoT.v qac cs1] w r := by
 obtain ⟨p1, k1, p2, k2, p3, k3, p4, k4, rfl, s1, s2, s3, s4⟩ := qbF ha1
 refine qf Tryz.func185 rfl (m := 38) rfl rfl (fun h => ?_)
 rw [qeD] at hF
 refine zSR (qS h rfl rfl ?_)
 intro w1 bb1 h
 refine zp1 rfl (zNSSR (zp1 rfl (zl 0 0 h rfl (zp2 rfl (qb ?_)))))
 obtain ⟨o1, hF, hK1⟩ := qd hF
 refine qy (qW [(1, _), (6, _), (7, _), (8, _)] ⟨rfl, rfl, rfl, rfl, trivial⟩ ?_)
 refine qI (fun m e w' => ∃ (i1 : Int), qaP a_w m i1 = some o1 ∧ e = [(1, .pointer (some ⟨bb1, 0, none⟩)), (6, .slice p1 a_w.Parent.length k1), (7, .int .i64 (a_w.Parent.length : Int)), (8, .int .i64 i1)] ∧ SH w w' [Ch.box bb1 [.slice p1 a_w.Parent.length k1, .slice p2 a_w.Res.length k2, .slice p3 a_w.Cap.length k3, .slice p4 a_w.Sink.length k4] 130]) n ⟨_, hF, rfl, h⟩ ?_
 rintro m1 e1 w2 ⟨i1, hF, rfl, h⟩
 rcases m1 with _ | m1
 ·rw [qaP] at hF
  cases hF
 rw [qaP] at hF
 refine zSR (zp1 rfl (zNS ?_))
 refine qp rfl hF ?_ ?_ <;> intro hF
 ·refine zKSBSR (zp1 rfl ?_)
  obtain ⟨y1, hy1, hF⟩ := qd hF
  have he1 := qg hy1
  obtain ⟨b1, o_1, q1, cs2, hp1, hq1, -, hr1, hc2⟩ := s1.at hy1
  obtain rfl := hr1
  refine zxe hp1 hq1 he1 rfl (zc 0 (hc2.below h.below) rfl (zp2 rfl (zNSR (zp3 rfl ?_))))
  by_cases hc3 : (i1 == 0) = true
  ·replace hF := bifT hc3 hF
   refine qC hc3 (t := 15) rfl (qa rfl (zp1 rfl (qa rfl (zp1 rfl (qa rfl (zp1 rfl ?_))))))
   by_cases hc4 : (y1 != (-1)) = true
   ·replace hF := bifT hc4 hF
    refine qC hc4 (t := 18) rfl (zn5 rfl (qa rfl (zp3 rfl (zn2 rfl ?_))))
    refine zn5 rfl (zn2 rfl (zp1 rfl (qb (qej rfl rfl (zSR ?_)))))
    refine zp1 rfl (qb ?_)
    obtain rfl := qh hF; replace hF := hK1
    exact qt qc h hF ⟨rfl, trivial⟩
   replace hc4 := zb hc4
   replace hF := bifF hc4 hF
   refine qB hc4 (t := 18) rfl (qa rfl (zp1 rfl (qa rfl (zl 0 1 h rfl (qa rfl ?_)))))
   obtain ⟨y2, hy2, hF⟩ := qd hF
   have he2 := qg hy2
   obtain ⟨b2, o_2, q2, cs3, hp2, hq2, -, hr2, hc5⟩ := s2.at hy2
   obtain rfl := hr2
   refine zxe hp2 hq2 he2 rfl (qa rfl (zc 0 (hc5.below h.below) rfl (qa rfl (zp1 rfl (qa rfl (zp3 rfl ?_))))))
   by_cases hc6 : (y2 != 0) = true
   ·replace hF := bifT hc6 hF
    refine qC hc6 (t := 26) rfl (zn5 rfl (zn4 rfl (zp1 rfl (qb ?_))))
    refine qej rfl rfl (zSR (zp1 rfl (qb ?_)))
    obtain rfl := qh hF; replace hF := hK1
    exact qt qc h hF ⟨rfl, trivial⟩
   replace hc6 := zb hc6
   replace hF := bifF hc6 hF
   refine qB hc6 (t := 26) rfl (qa rfl (zp1 rfl (qa rfl (zp1 rfl (qa rfl (zp1 rfl ?_))))))
   by_cases hc7 : (decide (i1 > 0)) = true
   ·replace hF := bifT hc7 hF
    refine qC hc7 (t := 29) rfl (qa rfl (zp1 rfl (qa rfl (zp1 rfl (qa rfl (zp1 rfl (qa rfl ?_)))))))
    obtain ⟨r1, hr3, hF⟩ := qd hF
    refine qm r1 h call86 (qam hr3) rfl rfl rfl rfl ?_
    intro w3 h
    refine qa rfl (zp1 rfl (qa rfl (zp2 rfl (qb ?_))))
    refine qp rfl hF ?_ ?_ <;> intro hF
    ·refine zSR (zp1 rfl (qb ?_))
     obtain rfl := qh hF; replace hF := hK1
     exact qt qc h hF ⟨rfl, trivial⟩
    exact zKER (zp2 rfl (qb (qz m1 [(1, _), (6, _), (7, _), (8, _)] (Nat.lt_succ_self m1) ⟨rfl, rfl, rfl, rfl, trivial⟩ ⟨_, hF, rfl, h⟩)))
   replace hc7 := zb hc7
   replace hF := bifF hc7 hF
   refine qB hc7 (t := 29) rfl (zn5 rfl (qa rfl (zp2 rfl (qb (qd6 rfl rfl (qdQ ?_))))))
   exact qe1 (qx (zp2 rfl (qb (qz m1 [(1, _), (6, _), (7, _), (8, _)] (Nat.lt_succ_self m1) ⟨rfl, rfl, rfl, rfl, trivial⟩ ⟨_, hF, rfl, h⟩))))
  replace hc3 := zb hc3
  replace hF := bifF hc3 hF
  refine qB hc3 (t := 15) rfl (zn5 rfl (zn4 rfl (zp2 rfl ?_)))
  refine qa rfl (zp1 rfl (qa rfl (zp1 rfl (qa rfl (zp1 rfl ?_)))))
  by_cases hc9 : (decide (i1 > 0)) = true
  ·replace hF := bifT hc9 hF
   refine qC hc9 (t := 29) rfl (qa rfl (zp1 rfl (qa rfl (zp1 rfl (qa rfl (zp1 rfl (qa rfl ?_)))))))
   obtain ⟨r2, hr4, hF⟩ := qd hF
   refine qm r2 h call86 (qam hr4) rfl rfl rfl rfl ?_
   intro w4 h
   refine qa rfl (zp1 rfl (qa rfl (zp2 rfl (qb ?_))))
   refine qp rfl hF ?_ ?_ <;> intro hF
   ·refine zSR (zp1 rfl (qb ?_))
    obtain rfl := qh hF; replace hF := hK1
    exact qt qc h hF ⟨rfl, trivial⟩
   exact zKER (zp2 rfl (qb (qz m1 [(1, _), (6, _), (7, _), (8, _)] (Nat.lt_succ_self m1) ⟨rfl, rfl, rfl, rfl, trivial⟩ ⟨_, hF, rfl, h⟩)))
  replace hc9 := zb hc9
  replace hF := bifF hc9 hF
  refine qB hc9 (t := 29) rfl (zn5 rfl (qa rfl (zp2 rfl (qb (qd6 rfl rfl (qdQ ?_))))))
  exact qe1 (qx (zp2 rfl (qb (qz m1 [(1, _), (6, _), (7, _), (8, _)] (Nat.lt_succ_self m1) ⟨rfl, rfl, rfl, rfl, trivial⟩ ⟨_, hF, rfl, h⟩))))
 refine qG rfl ?_
 obtain rfl := qh hF; replace hF := hK1
 exact zSR (zp1 rfl (qb (qt qc h hF ⟨rfl, trivial⟩)))

def qhi (n : Nat) (a_w : qac) (sinks : Int) : Option Bool :=
 (qap n a_w.Parent).bind fun r1 =>
 (qaD n r1 1 8).bind fun r2 =>
 bif r2 then
  (qap n a_w.Res).bind fun r3 =>
  bif (r3 == r1) then
   (qap n a_w.Cap).bind fun r4 =>
   bif (r4 == r1) then
    (qeD n a_w).bind fun r5 =>
    bif r5 then
     (qbv n a_w.Res 0 1000).bind fun r6 =>
     bif r6 then
      (qbv n a_w.Cap 0 500).bind fun r7 =>
      bif r7 then
       (qap n a_w.Sink).bind fun r8 =>
       bif (r8 == sinks) then
        (qbv n a_w.Sink 0 (W64 (r1 - 1))).bind fun r9 =>
        some r9
       else
        some false
      else
       some false
     else
      some false
    else
     some false
   else
    some false
  else
   some false
 else
  some false

theorem qlv {n : Nat} {w : World} {a_w : qac} {sinks : Int} {cs1 : List Value} (ha1 : GoT.R w (old w) a_w cs1) {r : Bool} (hF : qhi n a_w sinks = some r) : RetV Tryz.prog 149 [GoT.v qac cs1, .int .i64 sinks] w r := by
 obtain ⟨p1, k1, p2, k2, p3, k3, p4, k4, rfl, s1, s2, s3, s4⟩ := qbF ha1
 refine qf Tryz.func149 rfl (m := 53) rfl rfl (fun h => ?_)
 rw [qhi] at hF
 refine zSR (qS h rfl rfl ?_)
 intro w1 bb1 h
 refine zp1 rfl (zNSR (zp1 rfl (zl 0 0 h rfl ?_)))
 obtain ⟨r1, hr1, hF⟩ := qd hF
 refine qP r1 h call87 (qbr ⟨_, _, rfl, (h.oldS s1)⟩ hr1) rfl rfl rfl rfl ?_
 intro w2 h
 refine zp1 rfl (zNSR (zp1 rfl ?_))
 obtain ⟨r2, hr2, hF⟩ := qd hF
 refine qm r2 h call86 (qam hr2) rfl rfl rfl rfl ?_
 intro w3 h
 refine zp1 rfl ?_
 by_cases hc1 : r2 = true
 ·replace hF := bifT hc1 hF
  refine qC hc1 (t := 11) rfl (qa rfl (zp1 rfl (qa rfl (zl 0 1 h rfl (qa rfl ?_)))))
  obtain ⟨r3, hr3, hF⟩ := qd hF
  refine qP r3 h call87 (qbr ⟨_, _, rfl, (h.oldS s2)⟩ hr3) rfl rfl rfl rfl ?_
  intro w4 h
  refine qa rfl (zp1 rfl (qa rfl (zp3 rfl ?_)))
  by_cases hc2 : (r3 == r1) = true
  ·replace hF := bifT hc2 hF
   refine qC hc2 (t := 18) rfl (qa rfl (zp1 rfl (qa rfl (zl 0 2 h rfl (qa rfl ?_)))))
   obtain ⟨r4, hr4, hF⟩ := qd hF
   refine qP r4 h call87 (qbr ⟨_, _, rfl, (h.oldS s3)⟩ hr4) rfl rfl rfl rfl ?_
   intro w5 h
   refine qa rfl (zp1 rfl (qa rfl (zp3 rfl ?_)))
   by_cases hc3 : (r4 == r1) = true
   ·replace hF := bifT hc3 hF
    refine qC hc3 (t := 25) rfl (qa rfl (zl 0 0 h rfl (qa rfl ?_)))
    obtain ⟨r5, hr5, hF⟩ := qd hF
    refine qm r5 h call185 (qjv (h.old ha1) hr5) rfl rfl rfl rfl ?_
    intro w6 h
    refine zp2 rfl ?_
    by_cases hc4 : r5 = true
    ·replace hF := bifT hc4 hF
     refine qC hc4 (t := 29) rfl (qa rfl (zp1 rfl (qa rfl (zl 0 1 h rfl (qa rfl ?_)))))
     obtain ⟨r6, hr6, hF⟩ := qd hF
     refine qm r6 h call112 (qcD ⟨_, _, rfl, (h.oldS s2)⟩ hr6) rfl rfl rfl rfl ?_
     intro w7 h
     refine zp2 rfl ?_
     by_cases hc5 : r6 = true
     ·replace hF := bifT hc5 hF
      refine qC hc5 (t := 34) rfl (qa rfl (zp1 rfl (qa rfl (zl 0 2 h rfl (qa rfl ?_)))))
      obtain ⟨r7, hr7, hF⟩ := qd hF
      refine qm r7 h call112 (qcD ⟨_, _, rfl, (h.oldS s3)⟩ hr7) rfl rfl rfl rfl ?_
      intro w8 h
      refine zp2 rfl ?_
      by_cases hc6 : r7 = true
      ·replace hF := bifT hc6 hF
       refine qC hc6 (t := 39) rfl (qa rfl (zp1 rfl (qa rfl (zl 0 3 h rfl (qa rfl ?_)))))
       obtain ⟨r8, hr8, hF⟩ := qd hF
       refine qP r8 h call87 (qbr ⟨_, _, rfl, (h.oldS s4)⟩ hr8) rfl rfl rfl rfl ?_
       intro w9 h
       refine qa rfl (zp1 rfl (qa rfl (zp3 rfl ?_)))
       by_cases hc7 : (r8 == sinks) = true
       ·replace hF := bifT hc7 hF
        refine qC hc7 (t := 46) rfl (qa rfl (zp1 rfl (qa rfl (zl 0 3 h rfl (qa rfl (zp1 rfl (qa rfl (zp1 rfl (qa rfl ?_)))))))))
        obtain ⟨r9, hr9, hF⟩ := qd hF
        refine qm r9 h call112 (qcD ⟨_, _, rfl, (h.oldS s4)⟩ hr9) rfl rfl rfl rfl ?_
        intro w10 h
        exact zp2 rfl (qb (qt qc h hF ⟨rfl, trivial⟩))
       replace hc7 := zb hc7
       replace hF := bifF hc7 hF
       exact qB hc7 (t := 46) rfl (zn5 rfl (zp2 rfl (qb (qt qc h hF ⟨rfl, trivial⟩))))
      replace hc6 := zb hc6
      replace hF := bifF hc6 hF
      refine qB hc6 (t := 39) rfl (zn5 rfl (zp2 rfl (zn4 rfl ?_)))
      exact zn1 rfl (zp2 rfl (qb (qt qc h hF ⟨rfl, trivial⟩)))
     replace hc5 := zb hc5
     replace hF := bifF hc5 hF
     refine qB hc5 (t := 34) rfl (zn3 rfl (zp2 rfl (zn5 rfl (zp1 rfl ?_))))
     exact zp1 rfl (zn5 rfl (zp2 rfl (qb (qt qc h hF ⟨rfl, trivial⟩))))
    replace hc4 := zb hc4
    replace hF := bifF hc4 hF
    refine qB hc4 (t := 29) rfl (zn3 rfl (zp2 rfl (zn3 rfl (zp2 rfl (zn1 rfl ?_)))))
    refine zn4 rfl (zp2 rfl (zn5 rfl (zp1 rfl ?_)))
    exact zp1 rfl (qb (qt qc h hF ⟨rfl, trivial⟩))
   replace hc3 := zb hc3
   replace hF := bifF hc3 hF
   refine qB hc3 (t := 25) rfl (zn2 rfl (zp2 rfl (zn3 rfl (zp2 rfl (zn2 rfl ?_)))))
   refine zn1 rfl (zp2 rfl (zn5 rfl (zp2 rfl (zn2 rfl ?_))))
   exact zn3 rfl (zp2 rfl (qb (qt qc h hF ⟨rfl, trivial⟩)))
  replace hc2 := zb hc2
  replace hF := bifF hc2 hF
  refine qB hc2 (t := 18) rfl (zn5 rfl (zp2 rfl (zn2 rfl (zp2 rfl ?_))))
  refine zn3 rfl (zp2 rfl (zn3 rfl (zp2 rfl (zn2 rfl ?_))))
  refine zn3 rfl (zp2 rfl (zn5 rfl (zp2 rfl ?_)))
  exact qb (qt qc h hF ⟨rfl, trivial⟩)
 replace hc1 := zb hc1
 replace hF := bifF hc1 hF
 refine qB hc1 (t := 11) rfl (zn5 rfl (zp2 rfl (zn4 rfl ?_)))
 refine zn1 rfl (zp2 rfl (zn2 rfl (zp2 rfl (zn3 rfl (zp2 rfl ?_)))))
 refine zn3 rfl (zp2 rfl (zn5 rfl (zp2 rfl ?_)))
 exact zn5 rfl (zp2 rfl (qb (qt qc h hF ⟨rfl, trivial⟩)))

def qcL (b : qD) (x2 : (List Int)) : Nat → Int → Option (Flow Bool Int)
 | 0, _ => none
 | n + 1, i2 =>
  bif decide (i2 < (b.Wires.length : Int)) then
   (idx b.Wires i2).bind fun y4 =>
   (idx x2 i2).bind fun y5 =>
   (qhi n y4 y5).bind fun r2 =>
   bif (!r2) then
    some (.ret false)
   else
    qcL b x2 n (W64 (i2 + 1))
  else
   some (.nxt i2)

def qbU (r1 : (List Tplace)) : Nat → (List Int) → Int → Option ((List Int) × Int)
 | 0, _, _ => none
 | n + 1, x2, i1 =>
  bif decide (i1 < (r1.length : Int)) then
   (idx r1 i1).bind fun y1 =>
   bif (!y1.drives) then
    (idx x2 y1.net).bind fun y2 =>
    (idx x2 y1.net).bind fun _ =>
    qbU r1 n (setS x2 y1.net (W64 (y2 + 1))) (W64 (i1 + 1))
   else
    qbU r1 n x2 (W64 (i1 + 1))
  else
   some (x2, i1)

def qgG (n : Nat) (b : qD) : Option Bool :=
 (
  (qfT n (⟨b.Library.Cells⟩ : qA) (⟨b.Design.Instances, b.Design.Nets, b.Design.Ports⟩ : qk)).bind fun r3 =>
  bif (!r3) then
   some true
  else
   some ((b.Wires.length : Int) != (b.Design.Nets.length : Int))).bind fun b1 =>
 bif b1 then
  some false
 else
  (mkS (b.Wires.length : Int) (0 : Int)).bind fun x1 =>
  (qbM n (⟨b.Design.Instances, b.Design.Nets, b.Design.Ports⟩ : qk)).bind fun r1 =>
  (qbU r1 n x1 0).bind fun o => match o with
  | (x2, _) =>
   (qcL b x2 n 0).bind fun o => match o with
   | .ret r => some r
   | .nxt _ =>
    some true

theorem qk8 {n : Nat} {w : World} {b : qD} {cs1 : List Value} (ha1 : GoT.R w (old w) b cs1) {r : Bool} (hF : qgG n b = some r) : RetV Tryz.prog 108 [GoT.v qD cs1] w r := by
 obtain ⟨p1, k1, p2, k2, p3, k3, p4, k4, p5, k5, rfl, s1, s2, s3, s4, s5⟩ := qax ha1
 refine qf Tryz.func108 rfl (m := 63) rfl rfl (fun h => ?_)
 rw [qgG] at hF
 refine zSR (qS h rfl rfl ?_)
 intro w1 bb1 h
 refine zp1 rfl (zNSS ?_)
 obtain ⟨KF1, hKF1, o3, hF, hK3⟩ := bindE hF
 refine qdS (fun e w' => ∃ (b1 : Bool), KF1 b1 = some r ∧ e = [(1, .pointer (some ⟨bb1, 0, none⟩)), (23, .bool b1)] ∧ SH w w' [Ch.box bb1 [.slice p1 b.Library.Cells.length k1, .slice p2 b.Design.Instances.length k2, .slice p3 b.Design.Nets.length k3, .slice p4 b.Design.Ports.length k4, .slice p5 b.Wires.length k5] 50]) ?_ ?_
 ·refine qx (zp1 rfl (zl 0 0 h rfl (zp1 rfl (zl 0 1 h rfl ?_))))
  obtain ⟨r3, hr8, hF⟩ := qd hF
  refine qm r3 h call147 (qkx (qeS (⟨b.Library.Cells⟩ : qA) (h.oldS s1)) (qb6 (⟨b.Design.Instances, b.Design.Nets, b.Design.Ports⟩ : qk) (h.oldS s2) (h.oldS s3) (h.oldS s4)) hr8) rfl rfl rfl rfl ?_
  intro w12 h
  refine zp2 rfl ?_
  by_cases hc11 : (!r3) = true
  ·replace hF := bifT hc11 hF
   refine qC hc11 (t := 14) rfl (zn5 rfl (zn3 rfl (zp1 rfl (qb ?_))))
   obtain rfl := qh hF
   exact qw [(1, _), (23, _)] ⟨rfl, rfl, trivial⟩ ⟨_, hK3, rfl, h⟩
  replace hc11 := zb hc11
  replace hF := bifF hc11 hF
  refine qB hc11 (t := 14) rfl (qa rfl (zp1 rfl (qa rfl (zl 0 4 h rfl (qa rfl (zp1 rfl (qa rfl (zp1 rfl (qa rfl (zp1 rfl (qa rfl ?_)))))))))))
  refine zl 0 2 h rfl (qa rfl (zp1 rfl (qa rfl (zp2 rfl (qb ?_)))))
  obtain rfl := qh hF
  exact qw [(1, _), (23, _)] ⟨rfl, rfl, trivial⟩ ⟨_, hK3, rfl, h⟩
 rintro e3 w13 ⟨b1, hF, rfl, h⟩
 subst hKF1
 refine qp rfl hF ?_ ?_ <;> intro hF
 ·exact zSR (zp1 rfl (qb (qt qc h hF ⟨rfl, trivial⟩)))
 refine zKSR (zp1 rfl (zl 0 4 h rfl (zp1 rfl ?_)))
 obtain ⟨x1, hx1, hF⟩ := qd hF
 obtain ⟨g1, g2, hx1⟩ := qda hx1
 refine qer qc Int h rfl rfl rfl rfl rfl rfl rfl rfl rfl g1 g2 hx1 rfl ?_
 intro w2 S1 p6 h
 refine zp1 rfl (zNSSR (zp1 rfl (zl 1 1 h rfl ?_)))
 obtain ⟨r1, hr1, hF⟩ := qd hF
 refine qay r1 h call148 (qd4 (qb6 (⟨b.Design.Instances, b.Design.Nets, b.Design.Ports⟩ : qk) (h.oldS s2) (h.oldS s3) (h.oldS s4)) hr1) rfl rfl rfl rfl ?_
 intro w3 S2 p7 k6 h
 refine zp2 rfl (qb ?_)
 obtain ⟨o1, hF, hK1⟩ := qd hF
 refine qy (qW [(1, _), (3, _), (30, _), (31, _), (32, _)] ⟨rfl, rfl, rfl, rfl, rfl, trivial⟩ ?_)
 refine qI (fun m e w' => ∃ (x2 : (List Int)) (i1 : Int), qbU r1 m x2 i1 = some o1 ∧ e = [(1, .pointer (some ⟨bb1, 0, none⟩)), (3, .slice p6 x1.length x1.length), (30, .slice p7 r1.length k6), (31, .int .i64 (r1.length : Int)), (32, .int .i64 i1)] ∧ SH w w' [Ch.own S2 (r1 : List Tplace) [.slice p7 r1.length k6], Ch.own S1 (x2 : List Int) [.slice p6 x1.length x1.length], Ch.box bb1 [.slice p1 b.Library.Cells.length k1, .slice p2 b.Design.Instances.length k2, .slice p3 b.Design.Nets.length k3, .slice p4 b.Design.Ports.length k4, .slice p5 b.Wires.length k5] 50]) n ⟨_, _, hF, rfl, h⟩ ?_
 rintro m1 e1 w4 ⟨x2, i1, hF, rfl, h⟩
 rcases m1 with _ | m1
 ·rw [qbU] at hF
  cases hF
 rw [qbU] at hF
 refine zSR (zp1 rfl (zNS ?_))
 refine qp rfl hF ?_ ?_ <;> intro hF
 ·refine zKSBSR ?_
  obtain ⟨y1, hy1, hF⟩ := qd hF
  have he1 := qg hy1
  obtain ⟨b2, o_1, q1, cs2, hp1, hq1, -, hr2, hc3⟩ := (h.sl 0 rfl).1.at hy1
  obtain rfl := qhn hr2
  refine zx hp1 hq1 ⟨he1.1, qbo he1.2.1 (h.sl 0 rfl).2⟩ rfl (zc 0 hc3 rfl (qY qc h rfl rfl rfl ?_))
  intro w5 bb2 h
  refine zs 0 h rfl ?_
  intro w6 h
  refine zNSR (zp1 rfl (zl 0 3 h rfl (zp1 rfl (qb ?_))))
  refine qp rfl hF ?_ ?_ <;> intro hF
  ·refine qx (zp2 rfl (zl 0 2 h rfl ?_))
   obtain ⟨y2, hy2, hF⟩ := qd hF
   have he2 := qg hy2
   obtain ⟨b3, o_2, q2, cs3, hp2, hq2, -, hr3, hc5⟩ := (h.sl 2 rfl).1.at hy2
   obtain rfl := hr3
   refine zx hp2 hq2 ⟨he2.1, qbo he2.2.1 (h.sl 2 rfl).2⟩ rfl (zc 0 hc5 rfl (zp1 rfl ?_))
   obtain ⟨y3, hy3, hF⟩ := qd hF
   have he3 := qg hy3
   obtain ⟨b4, o_3, q3, cs4, hp3, hq3, -, hr4, hc6⟩ := (h.sl 2 rfl).1.at hy3
   obtain rfl := hr4
   refine zx hp3 hq3 ⟨he3.1, qbo he3.2.1 (h.sl 2 rfl).2⟩ rfl (qfe qc 2 0 (W64 (y2 + 1)) h rfl hy3 hp3 hq3 rfl hc6 rfl rfl rfl rfl rfl rfl rfl ?_)
   intro w7 h
   refine zNER (zp2 rfl (qb ?_))
   replace h := h.pick [1, 2, 3] rfl
   exact qz m1 [(1, _), (3, _), (30, _), (31, _), (32, _)] (Nat.lt_succ_self m1) ⟨rfl, rfl, rfl, rfl, rfl, trivial⟩ ⟨_, _, hF, rfl, h⟩
  refine zKER (zp2 rfl (qb ?_))
  replace h := h.pick [1, 2, 3] rfl
  exact qz m1 [(1, _), (3, _), (30, _), (31, _), (32, _)] (Nat.lt_succ_self m1) ⟨rfl, rfl, rfl, rfl, rfl, trivial⟩ ⟨_, _, hF, rfl, h⟩
 refine qG rfl ?_
 obtain rfl := qh hF; replace hF := hK1
 refine zSSR (zp1 rfl (zl 2 4 h rfl (zp2 rfl (qb ?_))))
 obtain ⟨o2, hF, hK2⟩ := qd hF
 refine qy ?_
 replace h := h.pick [1] rfl
 refine qW [(3, _), (48, _), (49, _), (50, _)] ⟨rfl, rfl, rfl, rfl, trivial⟩ ?_
 refine qI (fun m e w' => ∃ (i2 : Int), qcL b x2 m i2 = some o2 ∧ e = [(3, .slice p6 x1.length x1.length), (48, .slice p5 b.Wires.length k5), (49, .int .i64 (b.Wires.length : Int)), (50, .int .i64 i2)] ∧ SH w w' [Ch.own S1 (x2 : List Int) [.slice p6 x1.length x1.length]]) n ⟨_, hF, rfl, h⟩ ?_
 rintro m2 e2 w8 ⟨i2, hF, rfl, h⟩
 rcases m2 with _ | m2
 ·rw [qcL] at hF
  cases hF
 rw [qcL] at hF
 refine zSR (zp1 rfl (zNS ?_))
 refine qp rfl hF ?_ ?_ <;> intro hF
 ·refine zKSBSR (zp1 rfl ?_)
  obtain ⟨y4, hy4, hF⟩ := qd hF
  have he4 := qg hy4
  obtain ⟨b5, o_4, q4, cs5, hp4, hq4, -, hr5, hc8⟩ := s5.at hy4
  obtain ⟨p8, k7, p9, k8, p10, k9, p11, k10, rfl, s6, s7, s8, s9⟩ := qbF hr5
  refine zxe hp4 hq4 he4 rfl (zc 0 (hc8.below h.below) rfl (qY qc h rfl rfl rfl ?_))
  intro w9 bb3 h
  refine zp1 rfl (zs 0 h rfl ?_)
  intro w10 h
  replace h : SH _ _ [Ch.box bb3 [.slice p8 y4.Parent.length k7, .slice p9 y4.Res.length k8, .slice p10 y4.Cap.length k9, .slice p11 y4.Sink.length k10] 130, Ch.own S1 (x2 : List Int) [.slice p6 x1.length x1.length]] := h
  refine zNS ?_
  refine qcf rfl (by kernel_rfl) ?_
  refine zdl 0 0 h rfl ?_
  refine zd2 rfl ?_
  obtain ⟨y5, hy5, hF⟩ := qd hF
  have he5 := qg hy5
  obtain ⟨b6, o_5, q5, cs6, hp5, hq5, -, hr6, hc9⟩ := (h.sl 1 rfl).1.at hy5
  obtain rfl := hr6
  refine zdx hp5 hq5 ⟨he5.1, qbo he5.2.1 (h.sl 1 rfl).2⟩ rfl ?_
  refine zdc 0 hc9 rfl ?_
  obtain ⟨r2, hr7, hF⟩ := qd hF
  refine qb4 r2 (vsB _) call149 (fun _ hb => qlv (qhK y4 ((h.ext hb).oldS s6) ((h.ext hb).oldS s7) ((h.ext hb).oldS s8) ((h.ext hb).oldS s9)) hr7) rfl rfl rfl rfl ?_
  refine zd1 rfl ?_
  refine qbc (fun w11 hb => ?_)
  replace h := h.ext hb
  clear hb
  refine qp rfl hF ?_ ?_ <;> intro hF
  ·refine zSR (zp1 rfl (qb ?_))
   obtain rfl := qh hF; replace hF := hK2
   exact qt qc h hF ⟨rfl, trivial⟩
  refine zKER (zp2 rfl (qb ?_))
  replace h := h.pick [1] rfl
  exact qz m2 [(3, _), (48, _), (49, _), (50, _)] (Nat.lt_succ_self m2) ⟨rfl, rfl, rfl, rfl, trivial⟩ ⟨_, hF, rfl, h⟩
 refine qG rfl ?_
 obtain rfl := qh hF; replace hF := hK2
 exact zSR (zp1 rfl (qb (qt qc h hF ⟨rfl, trivial⟩)))

end Go.Fw


namespace Go.Fw
open Go

def qcd (a : (List Int)) : Nat := a.length
theorem qcr {a : (List Int)} (h : (rngL rngI) a) (w : qcd a ≤ 1048576) : (okL okI) a :=
  ⟨by simp only [qcd] at w; omega, fun x hx => h.2 x hx⟩
def qge (x : qH) : Prop := (rngL rngI) x.Slews ∧ (rngL rngI) x.Loads ∧ (rngL rngI) x.Values
def qeO (x : qH) : Nat := qcd x.Slews + qcd x.Loads + qcd x.Values
structure qgA (x : qH) : Prop where
  Slews : (okL okI) x.Slews
  Loads : (okL okI) x.Loads
  Values : (okL okI) x.Values
theorem qn7 {x : qH} (h : qge x) (w : qeO x ≤ 1048576) : qgA x := ⟨qcr (h.1) (by simp only [qeO] at w; omega), qcr (h.2.1) (by simp only [qeO] at w; omega), qcr (h.2.2) (by simp only [qeO] at w; omega)⟩
def qe4 (a : (List qH)) : Nat := a.length + (a.map fun x => qeO x).sum
theorem qkL {a : (List qH)} (h : (rngL qge) a) (w : qe4 a ≤ 1048576) : (okL qgA) a :=
  ⟨by simp only [qe4] at w; omega, fun x hx => qn7 (h.2 x hx) (by have := qds (wt := fun x : qH => qeO x) hx; simp only [qe4] at w; omega)⟩
def qiA (x : qag) : Prop := rngI x.Kind ∧ rngI x.From ∧ rngI x.To ∧ rngI x.Sense ∧ (rngL qge) x.Delay ∧ (rngL qge) x.Slew
def qib (x : qag) : Nat := qe4 x.Delay + qe4 x.Slew
structure qjP (x : qag) : Prop where
  Kind : okI x.Kind
  From : okI x.From
  To : okI x.To
  Sense : okI x.Sense
  Delay : (okL qgA) x.Delay
  Slew : (okL qgA) x.Slew
theorem qpb {x : qag} (h : qiA x) (w : qib x ≤ 1048576) : qjP x := ⟨h.1, h.2.1, h.2.2.1, h.2.2.2.1, qkL (h.2.2.2.2.1) (by simp only [qib] at w; omega), qkL (h.2.2.2.2.2) (by simp only [qib] at w; omega)⟩
theorem qdJ {a : (List Int)} (h : qcd a ≤ 1048576) : Ev (fun n => qaS n a a) true := by
  have hl : a.length ≤ 1048576 := by simp only [qcd] at h; omega
  unfold qaS
  exact Ev.ff (by simp) (Ev.bind (b := .nxt (a.length : Int)) (qhb (eqf := fun _ x y => some (!(x != y))) (fun x _ => Ev.now (by simp))
    (fun n => by simp only [qc3, qv (Nat.le_refl _), cond_false])
    (fun n j x hx => by
      have hj := (List.getElem?_eq_some_iff.1 hx).1
      simp only [qc3, qu hj, cond_true, qaH hx, Option.bind_some, Bool.not_not, qr (show j < 9223372036854775807 by omega)])) .done)

theorem qpK {a : qH} (h : qeO a ≤ 1048576) : Ev (fun n => qfw n a a) true := by
  unfold qfw
  simp only [qeO] at h
  exact Ev.bind (qdJ (a := a.Slews) (by omega)) (Ev.ff rfl (Ev.bind (qdJ (a := a.Loads) (by omega)) (Ev.ff rfl (Ev.bind (qdJ (a := a.Values) (by omega)) (Ev.ff rfl (.done))))))

theorem qms {a : (List qH)} (h : qe4 a ≤ 1048576) : Ev (fun n => qe9 n a a) true := by
  have hl : a.length ≤ 1048576 := by simp only [qe4] at h; omega
  unfold qe9
  exact Ev.ff (by simp) (Ev.bind (b := .nxt (a.length : Int)) (qhb (eqf := qfw) (fun x hx => qpK (by have := qds (wt := fun x : qH => qeO x) hx; simp only [qe4] at h; omega))
    (fun n => by simp only [qc2, qv (Nat.le_refl _), cond_false])
    (fun n j x hx => by
      have hj := (List.getElem?_eq_some_iff.1 hx).1
      simp only [qc2, qu hj, cond_true, qaH hx, Option.bind_some, qr (show j < 9223372036854775807 by omega)])) .done)

theorem qq9 {a : qag} (h : qib a ≤ 1048576) : Ev (fun n => qg4 n a a) true := by
  unfold qg4
  simp only [qib] at h
  exact Ev.ff qbt (Ev.ff qbt (Ev.ff qbt (Ev.ff qbt (Ev.bind (qms (a := a.Delay) (by omega)) (Ev.ff rfl (Ev.bind (qms (a := a.Slew) (by omega)) (Ev.ff rfl (.done))))))))

def qhN (a : (List qag)) : Nat := a.length + (a.map fun x => qib x).sum
theorem qoW {a : (List qag)} (h : (rngL qiA) a) (w : qhN a ≤ 1048576) : (okL qjP) a :=
  ⟨by simp only [qhN] at w; omega, fun x hx => qpb (h.2 x hx) (by have := qds (wt := fun x : qag => qib x) hx; simp only [qhN] at w; omega)⟩
theorem qqn {a : (List qag)} (h : qhN a ≤ 1048576) : Ev (fun n => qhm n a a) true := by
  have hl : a.length ≤ 1048576 := by simp only [qhN] at h; omega
  unfold qhm
  exact Ev.ff (by simp) (Ev.bind (b := .nxt (a.length : Int)) (qhb (eqf := qg4) (fun x hx => qq9 (by have := qds (wt := fun x : qag => qib x) hx; simp only [qhN] at h; omega))
    (fun n => by simp only [qd0, qv (Nat.le_refl _), cond_false])
    (fun n j x hx => by
      have hj := (List.getElem?_eq_some_iff.1 hx).1
      simp only [qd0, qu hj, cond_true, qaH hx, Option.bind_some, qr (show j < 9223372036854775807 by omega)])) .done)

def qiz (x : qas) : Prop := rngS x.Name ∧ rngI x.Dir ∧ rngI x.Cap ∧ rngB x.Clock
def qja (x : qas) : Nat := x.Name.size
structure qji (x : qas) : Prop where
  Name : okS x.Name
  Dir : okI x.Dir
  Cap : okI x.Cap
  Clock : okT x.Clock
theorem qpt {x : qas} (h : qiz x) (w : qja x ≤ 1048576) : qji x := ⟨(by unfold okS; simp only [qja] at w; omega), h.2.1, h.2.2.1, trivial⟩
def qhW (a : (List qas)) : Nat := a.length + (a.map fun x => qja x).sum
theorem qoR {a : (List qas)} (h : (rngL qiz) a) (w : qhW a ≤ 1048576) : (okL qji) a :=
  ⟨by simp only [qhW] at w; omega, fun x hx => qpt (h.2 x hx) (by have := qds (wt := fun x : qas => qja x) hx; simp only [qhW] at w; omega)⟩
def qhS (x : qJ) : Prop := rngS x.Name ∧ rngI x.Kind ∧ (rngL qiz) x.Pins ∧ (rngL qiA) x.Arcs ∧ (rngL rngI) x.Truth ∧ rngI x.Leak ∧ rngI x.Energy
def qfK (x : qJ) : Nat := x.Name.size + qhW x.Pins + qhN x.Arcs + qcd x.Truth
structure qjt (x : qJ) : Prop where
  Name : okS x.Name
  Kind : okI x.Kind
  Pins : (okL qji) x.Pins
  Arcs : (okL qjP) x.Arcs
  Truth : (okL okI) x.Truth
  Leak : okI x.Leak
  Energy : okI x.Energy
theorem qoz {x : qJ} (h : qhS x) (w : qfK x ≤ 1048576) : qjt x := ⟨(by unfold okS; simp only [qfK] at w; omega), h.2.1, qoR (h.2.2.1) (by simp only [qfK] at w; omega), qoW (h.2.2.2.1) (by simp only [qfK] at w; omega), qcr (h.2.2.2.2.1) (by simp only [qfK] at w; omega), h.2.2.2.2.2.1, h.2.2.2.2.2.2⟩
def qgs (a : (List qJ)) : Nat := a.length + (a.map fun x => qfK x).sum
theorem qnY {a : (List qJ)} (h : (rngL qhS) a) (w : qgs a ≤ 1048576) : (okL qjt) a :=
  ⟨by simp only [qgs] at w; omega, fun x hx => qoz (h.2 x hx) (by have := qds (wt := fun x : qJ => qfK x) hx; simp only [qgs] at w; omega)⟩
def qh5 (x : qA) : Prop := (rngL qhS) x.Cells
def qfD (x : qA) : Nat := qgs x.Cells
structure qf6 (x : qA) : Prop where
  Cells : (okL qjt) x.Cells
theorem qm0 {x : qA} (h : qh5 x) (w : qfD x ≤ 1048576) : qf6 x := ⟨qnY (h) (by simp only [qfD] at w; omega)⟩
def qeZ (x : qq) : Prop := rngS x.Name ∧ rngI x.Cell ∧ (rngL rngI) x.Nets
def qcB (x : qq) : Nat := x.Name.size + qcd x.Nets
structure qi8 (x : qq) : Prop where
  Name : okS x.Name
  Cell : okI x.Cell
  Nets : (okL okI) x.Nets
theorem qmd {x : qq} (h : qeZ x) (w : qcB x ≤ 1048576) : qi8 x := ⟨(by unfold okS; simp only [qcB] at w; omega), h.2.1, qcr (h.2.2) (by simp only [qcB] at w; omega)⟩
def qde (a : (List qq)) : Nat := a.length + (a.map fun x => qcB x).sum
theorem qlU {a : (List qq)} (h : (rngL qeZ) a) (w : qde a ≤ 1048576) : (okL qi8) a :=
  ⟨by simp only [qde] at w; omega, fun x hx => qmd (h.2 x hx) (by have := qds (wt := fun x : qq => qcB x) hx; simp only [qde] at w; omega)⟩
def qfF (a : (List ByteArray)) : Nat := a.length + (a.map fun x => x.size).sum
theorem qmB {a : (List ByteArray)} (_ : (rngL rngS) a) (w : qfF a ≤ 1048576) : (okL okS) a :=
  ⟨by simp only [qfF] at w; omega, fun x hx => (by unfold okS; have := qds (wt := fun x : ByteArray => x.size) hx; simp only [qfF] at w; omega)⟩
def qhR (x : qaj) : Prop := rngS x.Name ∧ rngI x.Dir ∧ rngI x.Net
def qhU (x : qaj) : Nat := x.Name.size
structure qmG (x : qaj) : Prop where
  Name : okS x.Name
  Dir : okI x.Dir
  Net : okI x.Net
theorem qoE {x : qaj} (h : qhR x) (w : qhU x ≤ 1048576) : qmG x := ⟨(by unfold okS; simp only [qhU] at w; omega), h.2.1, h.2.2⟩
def qgL (a : (List qaj)) : Nat := a.length + (a.map fun x => qhU x).sum
theorem qob {a : (List qaj)} (h : (rngL qhR) a) (w : qgL a ≤ 1048576) : (okL qmG) a :=
  ⟨by simp only [qgL] at w; omega, fun x hx => qoE (h.2 x hx) (by have := qds (wt := fun x : qaj => qhU x) hx; simp only [qgL] at w; omega)⟩
def qiL (x : qk) : Prop := (rngL qeZ) x.Instances ∧ (rngL rngS) x.Nets ∧ (rngL qhR) x.Ports
def qfj (x : qk) : Nat := qde x.Instances + qfF x.Nets + qgL x.Ports
structure qhL (x : qk) : Prop where
  Instances : (okL qi8) x.Instances
  Nets : (okL okS) x.Nets
  Ports : (okL qmG) x.Ports
theorem qnk {x : qk} (h : qiL x) (w : qfj x ≤ 1048576) : qhL x := ⟨qlU (h.1) (by simp only [qfj] at w; omega), qmB (h.2.1) (by simp only [qfj] at w; omega), qob (h.2.2) (by simp only [qfj] at w; omega)⟩
def qhP (x : qac) : Prop := (rngL rngI) x.Parent ∧ (rngL rngI) x.Res ∧ (rngL rngI) x.Cap ∧ (rngL rngI) x.Sink
def qfJ (x : qac) : Nat := qcd x.Parent + qcd x.Res + qcd x.Cap + qcd x.Sink
structure qj0 (x : qac) : Prop where
  Parent : (okL okI) x.Parent
  Res : (okL okI) x.Res
  Cap : (okL okI) x.Cap
  Sink : (okL okI) x.Sink
theorem qoL {x : qac} (h : qhP x) (w : qfJ x ≤ 1048576) : qj0 x := ⟨qcr (h.1) (by simp only [qfJ] at w; omega), qcr (h.2.1) (by simp only [qfJ] at w; omega), qcr (h.2.2.1) (by simp only [qfJ] at w; omega), qcr (h.2.2.2) (by simp only [qfJ] at w; omega)⟩
def qgx (a : (List qac)) : Nat := a.length + (a.map fun x => qfJ x).sum
theorem qnG {a : (List qac)} (h : (rngL qhP) a) (w : qgx a ≤ 1048576) : (okL qj0) a :=
  ⟨by simp only [qgx] at w; omega, fun x hx => qoL (h.2 x hx) (by have := qds (wt := fun x : qac => qfJ x) hx; simp only [qgx] at w; omega)⟩
def qjs (x : qD) : Prop := qh5 x.Library ∧ qiL x.Design ∧ (rngL qhP) x.Wires
def qgt (x : qD) : Nat := qfD x.Library + qfj x.Design + qgx x.Wires
structure qgk (x : qD) : Prop where
  Library : qf6 x.Library
  Design : qhL x.Design
  Wires : (okL qj0) x.Wires
theorem qnQ {x : qD} (h : qjs x) (w : qgt x ≤ 1048576) : qgk x := ⟨qm0 (h.1) (by simp only [qgt] at w; omega), qnk (h.2.1) (by simp only [qgt] at w; omega), qnG (h.2.2) (by simp only [qgt] at w; omega)⟩
theorem qrd {a : qas} (_ : qja a ≤ 1048576) : Ev (fun n => qg3 n a a) true := by
  unfold qg3
  exact Ev.ff qhF (Ev.ff qbt (Ev.ff qbt (Ev.ff qkc (.done))))

theorem qqL {a : (List qas)} (h : qhW a ≤ 1048576) : Ev (fun n => qhq n a a) true := by
  have hl : a.length ≤ 1048576 := by simp only [qhW] at h; omega
  unfold qhq
  exact Ev.ff (by simp) (Ev.bind (b := .nxt (a.length : Int)) (qhb (eqf := qg3) (fun x hx => qrd (by have := qds (wt := fun x : qas => qja x) hx; simp only [qhW] at h; omega))
    (fun n => by simp only [qdZ, qv (Nat.le_refl _), cond_false])
    (fun n j x hx => by
      have hj := (List.getElem?_eq_some_iff.1 hx).1
      simp only [qdZ, qu hj, cond_true, qaH hx, Option.bind_some, qr (show j < 9223372036854775807 by omega)])) .done)

theorem qqQ {a : qJ} (h : qfK a ≤ 1048576) : Ev (fun n => qga n a a) true := by
  unfold qga
  simp only [qfK] at h
  exact Ev.ff qhF (Ev.ff qbt (Ev.bind (qqL (a := a.Pins) (by omega)) (Ev.ff rfl (Ev.bind (qqn (a := a.Arcs) (by omega)) (Ev.ff rfl (Ev.bind (qdJ (a := a.Truth) (by omega)) (Ev.ff rfl (Ev.ff qbt (Ev.ff qbt (.done))))))))))

theorem qpL {a : (List qJ)} (h : qgs a ≤ 1048576) : Ev (fun n => qgz n a a) true := by
  have hl : a.length ≤ 1048576 := by simp only [qgs] at h; omega
  unfold qgz
  exact Ev.ff (by simp) (Ev.bind (b := .nxt (a.length : Int)) (qhb (eqf := qga) (fun x hx => qqQ (by have := qds (wt := fun x : qJ => qfK x) hx; simp only [qgs] at h; omega))
    (fun n => by simp only [qdu, qv (Nat.le_refl _), cond_false])
    (fun n j x hx => by
      have hj := (List.getElem?_eq_some_iff.1 hx).1
      simp only [qdu, qu hj, cond_true, qaH hx, Option.bind_some, qr (show j < 9223372036854775807 by omega)])) .done)

theorem qoi {a : qA} (h : qfD a ≤ 1048576) : Ev (fun n => qfu n a a) true := by
  unfold qfu
  simp only [qfD] at h
  exact Ev.bind (qpL (a := a.Cells) (by omega)) (Ev.ff rfl (.done))

theorem qm8 {a : qq} (h : qcB a ≤ 1048576) : Ev (fun n => qeb n a a) true := by
  unfold qeb
  simp only [qcB] at h
  exact Ev.ff qhF (Ev.ff qbt (Ev.bind (qdJ (a := a.Nets) (by omega)) (Ev.ff rfl (.done))))

theorem qmK {a : (List qq)} (h : qde a ≤ 1048576) : Ev (fun n => qeK n a a) true := by
  have hl : a.length ≤ 1048576 := by simp only [qde] at h; omega
  unfold qeK
  exact Ev.ff (by simp) (Ev.bind (b := .nxt (a.length : Int)) (qhb (eqf := qeb) (fun x hx => qm8 (by have := qds (wt := fun x : qq => qcB x) hx; simp only [qde] at h; omega))
    (fun n => by simp only [qb2, qv (Nat.le_refl _), cond_false])
    (fun n j x hx => by
      have hj := (List.getElem?_eq_some_iff.1 hx).1
      simp only [qb2, qu hj, cond_true, qaH hx, Option.bind_some, qr (show j < 9223372036854775807 by omega)])) .done)

theorem qnI {a : (List ByteArray)} (h : qfF a ≤ 1048576) : Ev (fun n => qfh n a a) true := by
  have hl : a.length ≤ 1048576 := by simp only [qfF] at h; omega
  unfold qfh
  exact Ev.ff (by simp) (Ev.bind (b := .nxt (a.length : Int)) (qhb (eqf := fun _ x y => some (!(x.toList != y.toList))) (fun x _ => Ev.now (by simp))
    (fun n => by simp only [qcF, qv (Nat.le_refl _), cond_false])
    (fun n j x hx => by
      have hj := (List.getElem?_eq_some_iff.1 hx).1
      simp only [qcF, qu hj, cond_true, qaH hx, Option.bind_some, Bool.not_not, qr (show j < 9223372036854775807 by omega)])) .done)

theorem qqz {a : qaj} (_ : qhU a ≤ 1048576) : Ev (fun n => qf8 n a a) true := by
  unfold qf8
  exact Ev.ff qhF (Ev.ff qbt (Ev.ff qbt (.done)))

theorem qpm {a : (List qaj)} (h : qgL a ≤ 1048576) : Ev (fun n => qgl n a a) true := by
  have hl : a.length ≤ 1048576 := by simp only [qgL] at h; omega
  unfold qgl
  exact Ev.ff (by simp) (Ev.bind (b := .nxt (a.length : Int)) (qhb (eqf := qf8) (fun x hx => qqz (by have := qds (wt := fun x : qaj => qhU x) hx; simp only [qgL] at h; omega))
    (fun n => by simp only [qdt, qv (Nat.le_refl _), cond_false])
    (fun n j x hx => by
      have hj := (List.getElem?_eq_some_iff.1 hx).1
      simp only [qdt, qu hj, cond_true, qaH hx, Option.bind_some, qr (show j < 9223372036854775807 by omega)])) .done)

theorem qo2 {a : qk} (h : qfj a ≤ 1048576) : Ev (fun n => qfV n a a) true := by
  unfold qfV
  simp only [qfj] at h
  exact Ev.bind (qmK (a := a.Instances) (by omega)) (Ev.ff rfl (Ev.bind (qnI (a := a.Nets) (by omega)) (Ev.ff rfl (Ev.bind (qpm (a := a.Ports) (by omega)) (Ev.ff rfl (.done))))))

theorem qqP {a : qac} (h : qfJ a ≤ 1048576) : Ev (fun n => qgc n a a) true := by
  unfold qgc
  simp only [qfJ] at h
  exact Ev.bind (qdJ (a := a.Parent) (by omega)) (Ev.ff rfl (Ev.bind (qdJ (a := a.Res) (by omega)) (Ev.ff rfl (Ev.bind (qdJ (a := a.Cap) (by omega)) (Ev.ff rfl (Ev.bind (qdJ (a := a.Sink) (by omega)) (Ev.ff rfl (.done))))))))

theorem qpR {a : (List qac)} (h : qgx a ≤ 1048576) : Ev (fun n => qgw n a a) true := by
  have hl : a.length ≤ 1048576 := by simp only [qgx] at h; omega
  unfold qgw
  exact Ev.ff (by simp) (Ev.bind (b := .nxt (a.length : Int)) (qhb (eqf := qgc) (fun x hx => qqP (by have := qds (wt := fun x : qac => qfJ x) hx; simp only [qgx] at h; omega))
    (fun n => by simp only [qdq, qv (Nat.le_refl _), cond_false])
    (fun n j x hx => by
      have hj := (List.getElem?_eq_some_iff.1 hx).1
      simp only [qdq, qu hj, cond_true, qaH hx, Option.bind_some, qr (show j < 9223372036854775807 by omega)])) .done)

theorem qpi {a : qD} (h : qgt a ≤ 1048576) : Ev (fun n => qgp n a a) true := by
  unfold qgp
  simp only [qgt] at h
  exact Ev.bind (qoi (a := a.Library) (by omega)) (Ev.ff rfl (Ev.bind (qo2 (a := a.Design) (by omega)) (Ev.ff rfl (Ev.bind (qpR (a := a.Wires) (by omega)) (Ev.ff rfl (.done))))))

theorem qec {a : (List Int)} {left : Int} (h : (rngL rngI) a) (h0 : 0 ≤ left) (h1 : left ≤ 1048576) : Sz (fun n => qbf n a left) (fun r => r = left - (qcd a : Int)) :=
  Sz.less h0 h1 (by omega) (by have := h.1; omega) (fun _ => rfl)

theorem qpH {a : qH} {left : Int} (h : qge a) (h0 : 0 ≤ left) (h1 : left ≤ 1048576) : Sz (fun n => qfC n a left) (fun r => r = left - (qeO a : Int)) := by
  unfold qfC
  obtain ⟨h_0, h_1, h_2⟩ := h
  exact Sz.step (qec (a := a.Slews) h_0 (by omega) (by omega)) fun r0 p0 q0 => Sz.step (qec (a := a.Loads) h_1 (by omega) (by omega)) fun r1 p1 q1 => Sz.step (qec (a := a.Values) h_2 (by omega) (by omega)) fun r2 p2 q2 => Sz.done p2 (by simp only [qeO]; omega)

theorem qml {a : (List qH)} {left : Int} (h : (rngL qge) a) (h0 : 0 ≤ left) (h1 : left ≤ 1048576) : Sz (fun n => qfS n a left) (fun r => r = left - (qe4 a : Int)) :=
  Sz.list (Lf := qco a) (wt := fun x : qH => qeO x) (el := qfC) h0 h1 h.1 (fun x hx left p q => qpH (h.2 x hx) p q)
    (fun acc n => by simp only [qco, qv (Nat.le_refl _), cond_false])
    (fun acc n j x hx => by
      have hj := (List.getElem?_eq_some_iff.1 hx).1
      have hl := h.1
      simp only [qco, qu hj, cond_true, qaH hx, Option.bind_some, qr (show j < 9223372036854775807 by omega)])
    (fun _ => rfl)

theorem qrc {a : qag} {left : Int} (h : qiA a) (h0 : 0 ≤ left) (h1 : left ≤ 1048576) : Sz (fun n => qgZ n a left) (fun r => r = left - (qib a : Int)) := by
  unfold qgZ
  obtain ⟨h_0, h_1, h_2, h_3, h_4, h_5⟩ := h
  exact Sz.step (qml (a := a.Delay) h_4 (by omega) (by omega)) fun r0 p0 q0 => Sz.step (qml (a := a.Slew) h_5 (by omega) (by omega)) fun r1 p1 q1 => Sz.done p1 (by simp only [qib]; omega)

theorem qqo {a : (List qag)} {left : Int} (h : (rngL qiA) a) (h0 : 0 ≤ left) (h1 : left ≤ 1048576) : Sz (fun n => qia n a left) (fun r => r = left - (qhN a : Int)) :=
  Sz.list (Lf := qdh a) (wt := fun x : qag => qib x) (el := qgZ) h0 h1 h.1 (fun x hx left p q => qrc (h.2 x hx) p q)
    (fun acc n => by simp only [qdh, qv (Nat.le_refl _), cond_false])
    (fun acc n j x hx => by
      have hj := (List.getElem?_eq_some_iff.1 hx).1
      have hl := h.1
      simp only [qdh, qu hj, cond_true, qaH hx, Option.bind_some, qr (show j < 9223372036854775807 by omega)])
    (fun _ => rfl)

theorem qq8 {a : qas} {left : Int} (h : qiz a) (h0 : 0 ≤ left) (h1 : left ≤ 1048576) : Sz (fun n => qgX n a left) (fun r => r = left - (qja a : Int)) := by
  unfold qgX
  obtain ⟨h_0, h_1, h_2, h_3⟩ := h
  exact Sz.strStep h_0 (by omega) (by omega) fun p0 q0 => Sz.done p0 (by simp only [qja]; omega)

theorem qqt {a : (List qas)} {left : Int} (h : (rngL qiz) a) (h0 : 0 ≤ left) (h1 : left ≤ 1048576) : Sz (fun n => qh8 n a left) (fun r => r = left - (qhW a : Int)) :=
  Sz.list (Lf := qdj a) (wt := fun x : qas => qja x) (el := qgX) h0 h1 h.1 (fun x hx left p q => qq8 (h.2 x hx) p q)
    (fun acc n => by simp only [qdj, qv (Nat.le_refl _), cond_false])
    (fun acc n j x hx => by
      have hj := (List.getElem?_eq_some_iff.1 hx).1
      have hl := h.1
      simp only [qdj, qu hj, cond_true, qaH hx, Option.bind_some, qr (show j < 9223372036854775807 by omega)])
    (fun _ => rfl)

theorem qqm {a : qJ} {left : Int} (h : qhS a) (h0 : 0 ≤ left) (h1 : left ≤ 1048576) : Sz (fun n => qgd n a left) (fun r => r = left - (qfK a : Int)) := by
  unfold qgd
  obtain ⟨h_0, h_1, h_2, h_3, h_4, h_5, h_6⟩ := h
  exact Sz.strStep h_0 (by omega) (by omega) fun p0 q0 => Sz.step (qqt (a := a.Pins) h_2 (by omega) (by omega)) fun r1 p1 q1 => Sz.step (qqo (a := a.Arcs) h_3 (by omega) (by omega)) fun r2 p2 q2 => Sz.step (qec (a := a.Truth) h_4 (by omega) (by omega)) fun r3 p3 q3 => Sz.done p3 (by simp only [qfK]; omega)

theorem qpp {a : (List qJ)} {left : Int} (h : (rngL qhS) a) (h0 : 0 ≤ left) (h1 : left ≤ 1048576) : Sz (fun n => qhE n a left) (fun r => r = left - (qgs a : Int)) :=
  Sz.list (Lf := qcR a) (wt := fun x : qJ => qfK x) (el := qgd) h0 h1 h.1 (fun x hx left p q => qqm (h.2 x hx) p q)
    (fun acc n => by simp only [qcR, qv (Nat.le_refl _), cond_false])
    (fun acc n j x hx => by
      have hj := (List.getElem?_eq_some_iff.1 hx).1
      have hl := h.1
      simp only [qcR, qu hj, cond_true, qaH hx, Option.bind_some, qr (show j < 9223372036854775807 by omega)])
    (fun _ => rfl)

theorem qnZ {a : qA} {left : Int} (h : qh5 a) (h0 : 0 ≤ left) (h1 : left ≤ 1048576) : Sz (fun n => qfi n a left) (fun r => r = left - (qfD a : Int)) := by
  unfold qfi
  have h_0 := h
  exact Sz.step (qpp (a := a.Cells) h_0 (by omega) (by omega)) fun r0 p0 q0 => Sz.done p0 (by simp only [qfD]; omega)

theorem qne {a : qq} {left : Int} (h : qeZ a) (h0 : 0 ≤ left) (h1 : left ≤ 1048576) : Sz (fun n => qea n a left) (fun r => r = left - (qcB a : Int)) := by
  unfold qea
  obtain ⟨h_0, h_1, h_2⟩ := h
  exact Sz.strStep h_0 (by omega) (by omega) fun p0 q0 => Sz.step (qec (a := a.Nets) h_2 (by omega) (by omega)) fun r1 p1 q1 => Sz.done p1 (by simp only [qcB]; omega)

theorem qmV {a : (List qq)} {left : Int} (h : (rngL qeZ) a) (h0 : 0 ≤ left) (h1 : left ≤ 1048576) : Sz (fun n => qfB n a left) (fun r => r = left - (qde a : Int)) :=
  Sz.list (Lf := qbC a) (wt := fun x : qq => qcB x) (el := qea) h0 h1 h.1 (fun x hx left p q => qne (h.2 x hx) p q)
    (fun acc n => by simp only [qbC, qv (Nat.le_refl _), cond_false])
    (fun acc n j x hx => by
      have hj := (List.getElem?_eq_some_iff.1 hx).1
      have hl := h.1
      simp only [qbC, qu hj, cond_true, qaH hx, Option.bind_some, qr (show j < 9223372036854775807 by omega)])
    (fun _ => rfl)

theorem qnV {a : (List ByteArray)} {left : Int} (h : (rngL rngS) a) (h0 : 0 ≤ left) (h1 : left ≤ 1048576) : Sz (fun n => qgE n a left) (fun r => r = left - (qfF a : Int)) :=
  Sz.list (Lf := qb7 a) (wt := fun x : ByteArray => x.size) (el := fun _ (x : ByteArray) acc => some (W64 (acc - (x.size : Int)))) h0 h1 h.1 (fun x hx left p q => Sz.str (h.2 x hx) p q)
    (fun acc n => by simp only [qb7, qv (Nat.le_refl _), cond_false])
    (fun acc n j x hx => by
      have hj := (List.getElem?_eq_some_iff.1 hx).1
      have hl := h.1
      simp only [qb7, qu hj, cond_true, qaH hx, Option.bind_some, qr (show j < 9223372036854775807 by omega)])
    (fun _ => rfl)

theorem qqy {a : qaj} {left : Int} (h : qhR a) (h0 : 0 ≤ left) (h1 : left ≤ 1048576) : Sz (fun n => qgh n a left) (fun r => r = left - (qhU a : Int)) := by
  unfold qgh
  obtain ⟨h_0, h_1, h_2⟩ := h
  exact Sz.strStep h_0 (by omega) (by omega) fun p0 q0 => Sz.done p0 (by simp only [qhU]; omega)

theorem qpy {a : (List qaj)} {left : Int} (h : (rngL qhR) a) (h0 : 0 ≤ left) (h1 : left ≤ 1048576) : Sz (fun n => qhC n a left) (fun r => r = left - (qgL a : Int)) :=
  Sz.list (Lf := qcW a) (wt := fun x : qaj => qhU x) (el := qgh) h0 h1 h.1 (fun x hx left p q => qqy (h.2 x hx) p q)
    (fun acc n => by simp only [qcW, qv (Nat.le_refl _), cond_false])
    (fun acc n j x hx => by
      have hj := (List.getElem?_eq_some_iff.1 hx).1
      have hl := h.1
      simp only [qcW, qu hj, cond_true, qaH hx, Option.bind_some, qr (show j < 9223372036854775807 by omega)])
    (fun _ => rfl)

theorem qoO {a : qk} {left : Int} (h : qiL a) (h0 : 0 ≤ left) (h1 : left ≤ 1048576) : Sz (fun n => qfQ n a left) (fun r => r = left - (qfj a : Int)) := by
  unfold qfQ
  obtain ⟨h_0, h_1, h_2⟩ := h
  exact Sz.step (qmV (a := a.Instances) h_0 (by omega) (by omega)) fun r0 p0 q0 => Sz.step (qnV (a := a.Nets) h_1 (by omega) (by omega)) fun r1 p1 q1 => Sz.step (qpy (a := a.Ports) h_2 (by omega) (by omega)) fun r2 p2 q2 => Sz.done p2 (by simp only [qfj]; omega)

theorem qqh {a : qac} {left : Int} (h : qhP a) (h0 : 0 ≤ left) (h1 : left ≤ 1048576) : Sz (fun n => qgi n a left) (fun r => r = left - (qfJ a : Int)) := by
  unfold qgi
  obtain ⟨h_0, h_1, h_2, h_3⟩ := h
  exact Sz.step (qec (a := a.Parent) h_0 (by omega) (by omega)) fun r0 p0 q0 => Sz.step (qec (a := a.Res) h_1 (by omega) (by omega)) fun r1 p1 q1 => Sz.step (qec (a := a.Cap) h_2 (by omega) (by omega)) fun r2 p2 q2 => Sz.step (qec (a := a.Sink) h_3 (by omega) (by omega)) fun r3 p3 q3 => Sz.done p3 (by simp only [qfJ]; omega)

theorem qp8 {a : (List qac)} {left : Int} (h : (rngL qhP) a) (h0 : 0 ≤ left) (h1 : left ≤ 1048576) : Sz (fun n => qhB n a left) (fun r => r = left - (qgx a : Int)) :=
  Sz.list (Lf := qcU a) (wt := fun x : qac => qfJ x) (el := qgi) h0 h1 h.1 (fun x hx left p q => qqh (h.2 x hx) p q)
    (fun acc n => by simp only [qcU, qv (Nat.le_refl _), cond_false])
    (fun acc n j x hx => by
      have hj := (List.getElem?_eq_some_iff.1 hx).1
      have hl := h.1
      simp only [qcU, qu hj, cond_true, qaH hx, Option.bind_some, qr (show j < 9223372036854775807 by omega)])
    (fun _ => rfl)

theorem qpa {a : qD} {left : Int} (h : qjs a) (h0 : 0 ≤ left) (h1 : left ≤ 1048576) : Sz (fun n => qgD n a left) (fun r => r = left - (qgt a : Int)) := by
  unfold qgD
  obtain ⟨h_0, h_1, h_2⟩ := h
  exact Sz.step (qnZ (a := a.Library) h_0 (by omega) (by omega)) fun r0 p0 q0 => Sz.step (qoO (a := a.Design) h_1 (by omega) (by omega)) fun r1 p1 q1 => Sz.step (qp8 (a := a.Wires) h_2 (by omega) (by omega)) fun r2 p2 q2 => Sz.done p2 (by simp only [qgt]; omega)

theorem qc5 {a : (List Int)} (h : qcd a ≤ 1048576) : Ev (fun n => qaC n a) a := by
  have hl : a.length ≤ 1048576 := by simp only [qcd] at h; omega
  unfold qaC
  exact Ev.bindN (qgo (by omega)) (Ev.bind (b := (a, (a.length : Int))) (qhc (cp := fun _ x => some x) (fun _ _ => .done)
    (fun acc n => by simp only [qc4, qv (Nat.le_refl _), cond_false])
    (fun acc n j x y hx hy => by
      have hj := (List.getElem?_eq_some_iff.1 hx).1
      simp only [qc4, qu hj, cond_true, qaH hx, qaH hy, Option.bind_some, qr (show j < 9223372036854775807 by omega)])) .done)

theorem qpT {a : qH} (h : qeO a ≤ 1048576) : Ev (fun n => qfA n a) a := by
  unfold qfA
  simp only [qeO] at h
  exact Ev.bind (qc5 (a := a.Slews) (by omega)) (Ev.bind (qc5 (a := a.Loads) (by omega)) (Ev.bind (qc5 (a := a.Values) (by omega)) (.done)))

theorem qmp {a : (List qH)} (h : qe4 a ≤ 1048576) : Ev (fun n => qe8 n a) a := by
  have hl : a.length ≤ 1048576 := by simp only [qe4] at h; omega
  unfold qe8
  exact Ev.bindN (qgo (by omega)) (Ev.bind (b := (a, (a.length : Int))) (qhc (cp := qfA) (fun x hx => qpT (by have := qds (wt := fun x : qH => qeO x) hx; simp only [qe4] at h; omega))
    (fun acc n => by simp only [qc8, qv (Nat.le_refl _), cond_false])
    (fun acc n j x y hx hy => by
      have hj := (List.getElem?_eq_some_iff.1 hx).1
      simp only [qc8, qu hj, cond_true, qaH hx, qaH hy, Option.bind_some, qr (show j < 9223372036854775807 by omega)])) .done)

theorem qq2 {a : qag} (h : qib a ≤ 1048576) : Ev (fun n => qg7 n a) a := by
  unfold qg7
  simp only [qib] at h
  exact Ev.bind (qmp (a := a.Delay) (by omega)) (Ev.bind (qmp (a := a.Slew) (by omega)) (.done))

theorem qqf {a : (List qag)} (h : qhN a ≤ 1048576) : Ev (fun n => qhf n a) a := by
  have hl : a.length ≤ 1048576 := by simp only [qhN] at h; omega
  unfold qhf
  exact Ev.bindN (qgo (by omega)) (Ev.bind (b := (a, (a.length : Int))) (qhc (cp := qg7) (fun x hx => qq2 (by have := qds (wt := fun x : qag => qib x) hx; simp only [qhN] at h; omega))
    (fun acc n => by simp only [qdR, qv (Nat.le_refl _), cond_false])
    (fun acc n j x y hx hy => by
      have hj := (List.getElem?_eq_some_iff.1 hx).1
      simp only [qdR, qu hj, cond_true, qaH hx, qaH hy, Option.bind_some, qr (show j < 9223372036854775807 by omega)])) .done)

theorem qra {a : qas} (_ : qja a ≤ 1048576) : Ev (fun n => qg1 n a) a := by
  unfold qg1
  exact .done

theorem qqj {a : (List qas)} (h : qhW a ≤ 1048576) : Ev (fun n => qhv n a) a := by
  have hl : a.length ≤ 1048576 := by simp only [qhW] at h; omega
  unfold qhv
  exact Ev.bindN (qgo (by omega)) (Ev.bind (b := (a, (a.length : Int))) (qhc (cp := qg1) (fun x hx => qra (by have := qds (wt := fun x : qas => qja x) hx; simp only [qhW] at h; omega))
    (fun acc n => by simp only [qdY, qv (Nat.le_refl _), cond_false])
    (fun acc n j x y hx hy => by
      have hj := (List.getElem?_eq_some_iff.1 hx).1
      simp only [qdY, qu hj, cond_true, qaH hx, qaH hy, Option.bind_some, qr (show j < 9223372036854775807 by omega)])) .done)

theorem qqH {a : qJ} (h : qfK a ≤ 1048576) : Ev (fun n => qgj n a) a := by
  unfold qgj
  simp only [qfK] at h
  exact Ev.bind (qqj (a := a.Pins) (by omega)) (Ev.bind (qqf (a := a.Arcs) (by omega)) (Ev.bind (qc5 (a := a.Truth) (by omega)) (.done)))

theorem qqb {a : (List qJ)} (h : qgs a ≤ 1048576) : Ev (fun n => qgK n a) a := by
  have hl : a.length ≤ 1048576 := by simp only [qgs] at h; omega
  unfold qgK
  exact Ev.bindN (qgo (by omega)) (Ev.bind (b := (a, (a.length : Int))) (qhc (cp := qgj) (fun x hx => qqH (by have := qds (wt := fun x : qJ => qfK x) hx; simp only [qgs] at h; omega))
    (fun acc n => by simp only [qdv, qv (Nat.le_refl _), cond_false])
    (fun acc n j x y hx hy => by
      have hj := (List.getElem?_eq_some_iff.1 hx).1
      simp only [qdv, qu hj, cond_true, qaH hx, qaH hy, Option.bind_some, qr (show j < 9223372036854775807 by omega)])) .done)

theorem qn0 {a : qA} (h : qfD a ≤ 1048576) : Ev (fun n => qfr n a) a := by
  unfold qfr
  simp only [qfD] at h
  exact Ev.bind (qqb (a := a.Cells) (by omega)) (.done)

theorem qnd {a : qq} (h : qcB a ≤ 1048576) : Ev (fun n => qd9 n a) a := by
  unfold qd9
  simp only [qcB] at h
  exact Ev.bind (qc5 (a := a.Nets) (by omega)) (.done)

theorem qmL {a : (List qq)} (h : qde a ≤ 1048576) : Ev (fun n => qeM n a) a := by
  have hl : a.length ≤ 1048576 := by simp only [qde] at h; omega
  unfold qeM
  exact Ev.bindN (qgo (by omega)) (Ev.bind (b := (a, (a.length : Int))) (qhc (cp := qd9) (fun x hx => qnd (by have := qds (wt := fun x : qq => qcB x) hx; simp only [qde] at h; omega))
    (fun acc n => by simp only [qb3, qv (Nat.le_refl _), cond_false])
    (fun acc n j x y hx hy => by
      have hj := (List.getElem?_eq_some_iff.1 hx).1
      simp only [qb3, qu hj, cond_true, qaH hx, qaH hy, Option.bind_some, qr (show j < 9223372036854775807 by omega)])) .done)

theorem qn2 {a : (List ByteArray)} (h : qfF a ≤ 1048576) : Ev (fun n => qfl n a) a := by
  have hl : a.length ≤ 1048576 := by simp only [qfF] at h; omega
  unfold qfl
  exact Ev.bindN (qgo (by omega)) (Ev.bind (b := (a, (a.length : Int))) (qhc (cp := fun _ x => some x) (fun _ _ => .done)
    (fun acc n => by simp only [qcy, qv (Nat.le_refl _), cond_false])
    (fun acc n j x y hx hy => by
      have hj := (List.getElem?_eq_some_iff.1 hx).1
      simp only [qcy, qu hj, cond_true, qaH hx, qaH hy, Option.bind_some, qr (show j < 9223372036854775807 by omega)])) .done)

theorem qqK {a : qaj} (_ : qhU a ≤ 1048576) : Ev (fun n => qgg n a) a := by
  unfold qgg
  exact .done

theorem qp7 {a : (List qaj)} (h : qgL a ≤ 1048576) : Ev (fun n => qgJ n a) a := by
  have hl : a.length ≤ 1048576 := by simp only [qgL] at h; omega
  unfold qgJ
  exact Ev.bindN (qgo (by omega)) (Ev.bind (b := (a, (a.length : Int))) (qhc (cp := qgg) (fun x hx => qqK (by have := qds (wt := fun x : qaj => qhU x) hx; simp only [qgL] at h; omega))
    (fun acc n => by simp only [qdw, qv (Nat.le_refl _), cond_false])
    (fun acc n j x y hx hy => by
      have hj := (List.getElem?_eq_some_iff.1 hx).1
      simp only [qdw, qu hj, cond_true, qaH hx, qaH hy, Option.bind_some, qr (show j < 9223372036854775807 by omega)])) .done)

theorem qoN {a : qk} (h : qfj a ≤ 1048576) : Ev (fun n => qfN n a) a := by
  unfold qfN
  simp only [qfj] at h
  exact Ev.bind (qmL (a := a.Instances) (by omega)) (Ev.bind (qn2 (a := a.Nets) (by omega)) (Ev.bind (qp7 (a := a.Ports) (by omega)) (.done)))

theorem qqB {a : qac} (h : qfJ a ≤ 1048576) : Ev (fun n => qgb n a) a := by
  unfold qgb
  simp only [qfJ] at h
  exact Ev.bind (qc5 (a := a.Parent) (by omega)) (Ev.bind (qc5 (a := a.Res) (by omega)) (Ev.bind (qc5 (a := a.Cap) (by omega)) (Ev.bind (qc5 (a := a.Sink) (by omega)) (.done))))

theorem qpS {a : (List qac)} (h : qgx a ≤ 1048576) : Ev (fun n => qgU n a) a := by
  have hl : a.length ≤ 1048576 := by simp only [qgx] at h; omega
  unfold qgU
  exact Ev.bindN (qgo (by omega)) (Ev.bind (b := (a, (a.length : Int))) (qhc (cp := qgb) (fun x hx => qqB (by have := qds (wt := fun x : qac => qfJ x) hx; simp only [qgx] at h; omega))
    (fun acc n => by simp only [qdr, qv (Nat.le_refl _), cond_false])
    (fun acc n j x y hx hy => by
      have hj := (List.getElem?_eq_some_iff.1 hx).1
      simp only [qdr, qu hj, cond_true, qaH hx, qaH hy, Option.bind_some, qr (show j < 9223372036854775807 by omega)])) .done)

theorem qlw {a : qD} (h : qgt a ≤ 1048576) : Ev (fun n => qeU n a) a := by
  unfold qeU
  simp only [qgt] at h
  exact Ev.bind (qn0 (a := a.Library) (by omega)) (Ev.bind (qoN (a := a.Design) (by omega)) (Ev.bind (qpS (a := a.Wires) (by omega)) (.done)))

end Go.Fw


namespace Go.Fw
open Go
set_option maxRecDepth 100000


theorem qdX {n : Nat} {x lo hi : Int} : qan n x lo hi = some (inI x lo hi) := by
  simp only [qan, qiZ, qj4]; rfl
theorem qdp {n : Nat} {x lo hi : Int} : qaD n x lo hi = some (inI x lo hi) := by
  simp only [qaD, qiZ, qj4]; rfl

/-! ### Names -/

/-- The byte at a place, as a number. -/
def bt (s : ByteArray) (j : Nat) : Nat := (s.data.toList.getD j 0).toNat
theorem qpz {s : ByteArray} {j : Nat} (h : j < s.size) : atS s (j : Int) = some (bt s j : Int) := by
  have h' : j < s.data.size := h
  have hl : j < s.data.toList.length := by simpa using h'
  unfold atS
  rw [if_pos (by omega), Int.toNat_natCast]
  have : s[j]? = some (s.data.toList.getD j 0) := by
    rw [getElem?_pos s j h, List.getD_eq_getElem?_getD, List.getElem?_eq_getElem hl]
    rfl
  rw [this]
  rfl

def letB (b : Nat) : Bool := decide (97 ≤ b) && decide (b ≤ 122)
def digB (b : Nat) : Bool := decide (48 ≤ b) && decide (b ≤ 57)
def chB (s : ByteArray) (j : Nat) : Bool := letB (bt s j) || digB (bt s j) && decide (0 < j)
def nameB (s : ByteArray) : Bool := (decide (1 ≤ s.size) && decide (s.size ≤ 8)) && allN (chB s) s.size

theorem qjW {s : ByteArray} (h : okS s) : Ev (fun n => qeV n s) (nameB s) := by
  unfold okS at h
  have hL : Ev (fun n => qch s n 0) (bif allN (chB s) s.size then .nxt (s.size : Int) else .ret false) := by
    refine qdP ?_ (fun j hj X hX => ?_)
    · exact Ev.succ (by simp only [qch, qv (Nat.le_refl _), cond_false]; exact .done)
    · refine Ev.succ ?_
      simp only [qch, qu hj, cond_true, qpz hj, Option.bind_some, qiZ, qj4, qr (show j < 9223372036854775807 by omega)]
      have e1 : (decide ((bt s j : Int) ≥ 97) && decide ((bt s j : Int) ≤ 122)) = letB (bt s j) := by unfold letB; rw [Bool.eq_iff_iff]; simp; omega
      have e2 : (decide ((bt s j : Int) ≥ 48) && decide ((bt s j : Int) ≤ 57)) = digB (bt s j) := by unfold digB; rw [Bool.eq_iff_iff]; simp; omega
      have e3 : decide ((j : Int) > 0) = decide (0 < j) := by rw [Bool.eq_iff_iff]; simp
      rw [e1, e2, e3]
      unfold chB
      cases letB (bt s j) <;> cases digB (bt s j) <;> cases decide (0 < j) <;> first | exact hX | exact .done
  unfold qeV
  refine Ev.cast (r := bif allN (chB s) s.size then (decide (1 ≤ s.size) && decide (s.size ≤ 8)) else false) (Ev.bindB hL (fun _ => ?_) (fun _ => .done)) ?_
  · simp only [qiZ, qj4]
    exact Ev.now (by congr 1; rw [Bool.eq_iff_iff]; simp; omega)
  · unfold nameB
    cases allN (chB s) s.size <;> simp

def cutset : List UInt8 := [97, 98, 99, 100, 101, 102, 103, 104, 105, 106, 107, 108, 109, 110, 111, 112, 113, 114, 115, 116, 117, 118, 119, 120, 121, 122, 48, 49, 50, 51, 52, 53, 54, 55, 56, 57]
theorem qlx (b : UInt8) : cutset.contains b = (letB b.toNat || digB b.toNat) := by
  have h0 : (List.range 256).all (fun m => cutset.contains (UInt8.ofNat m) == (letB (UInt8.ofNat m).toNat || digB (UInt8.ofNat m).toNat)) = true := by kernel_rfl
  have h := List.all_eq_true.1 h0 b.toNat (List.mem_range.2 b.toNat_lt)
  rw [beq_iff_eq] at h
  simpa using h
def letters : List UInt8 := [97, 98, 99, 100, 101, 102, 103, 104, 105, 106, 107, 108, 109, 110, 111, 112, 113, 114, 115, 116, 117, 118, 119, 120, 121, 122]
theorem qnK (m : Nat) (hm : m < 256) : decide ((Lib.indexByte letters m.toUInt8) ≥ 0) = letB m := by
  have h0 : (List.range 256).all (fun m => decide ((Lib.indexByte letters m.toUInt8) ≥ 0) == letB m) = true := by kernel_rfl
  have h := List.all_eq_true.1 h0 m (List.mem_range.2 hm)
  rwa [beq_iff_eq] at h

theorem ql4 {α : Type} {p : α → Bool} {l : List α} : l.dropWhile p = [] ↔ ∀ x, x ∈ l → p x = true := by
  induction l with
  | nil => simp
  | cons y l ih =>
    rw [List.dropWhile_cons]
    by_cases h : p y = true
    · rw [if_pos h, ih]; simp [h]
    · rw [if_neg h]; simp [h]

theorem ql0 {α : Type} {p : α → Bool} {l : List α} (h : ∀ x, x ∈ l.dropWhile p → p x = true) : ∀ x, x ∈ l → p x = true := by
  induction l with
  | nil => simp
  | cons y l ih =>
    rw [List.dropWhile_cons] at h
    by_cases hy : p y = true
    · rw [if_pos hy] at h
      intro x hx
      rcases List.mem_cons.1 hx with rfl | hx
      · exact hy
      · exact ih h x hx
    · rw [if_neg hy] at h
      exact h

theorem qpF {l cs : List UInt8} : Lib.trimS l cs = [] ↔ ∀ x, x ∈ l → cs.contains x = true := by
  unfold Lib.trimS Lib.trimRightS Lib.trimLeftS
  rw [ql4]
  constructor
  · intro h x hx
    exact ql0 (p := (cs.contains ·)) (l := l.reverse) (fun y hy => h y (List.mem_reverse.2 hy)) x (List.mem_reverse.2 hx)
  · intro h x hx
    exact h x (List.mem_reverse.1 ((List.dropWhile_suffix _).subset (List.mem_reverse.1 hx)))

theorem qfW {a b : ByteArray} : (a.toList == b.toList) = decide (a = b) := by
  rw [Bool.eq_iff_iff, beq_iff_eq, decide_eq_true_iff]
  constructor
  · intro h
    exact ByteArray.ext (by have := congrArg List.toArray h; simpa [ByteArray.toList_eq] using this)
  · rintro rfl; rfl
end Go.Fw


namespace Go.Fw
open Go
set_option maxRecDepth 100000

theorem qqR {s : ByteArray} {j : Nat} (h : j < s.data.toList.length) : bt s j = (s.data.toList[j]).toNat := by
  unfold bt; rw [List.getD_eq_getElem?_getD, List.getElem?_eq_getElem h]; rfl
theorem qrg {s : ByteArray} {j : Nat} : bt s j < 256 := UInt8.toNat_lt _

theorem qmg {n : Nat} {s : ByteArray} (h : okS s) : qf7 n s = some (nameB s) := by
  unfold okS at h
  have hl : s.data.toList.length = s.size := by simp
  simp only [qf7, qdp, Option.bind_some]
  cases hI : inI (s.size : Int) 1 8 with
  | false =>
    have hs : (decide (1 ≤ s.size) && decide (s.size ≤ 8)) = false := by rw [qow] at hI; rw [Bool.and_eq_false_iff, decide_eq_false_iff_not, decide_eq_false_iff_not]; omega
    simp [nameB, hs]
  | true =>
    have hs : 1 ≤ s.size ∧ s.size ≤ 8 := by rw [qdC] at hI; omega
    have hT : qgH n s (⟨#[97, 98, 99, 100, 101, 102, 103, 104, 105, 106, 107, 108, 109, 110, 111, 112, 113, 114, 115, 116, 117, 118, 119, 120, 121, 122, 48, 49, 50, 51, 52, 53, 54, 55, 56, 57]⟩ : ByteArray) = some ⟨(Lib.trimS s.data.toList cutset).toArray⟩ := by
      unfold qgH
      rw [if_pos ⟨by omega, by decide, by decide⟩]
      rfl
    rw [hT]
    simp only [cond_true, Option.bind_some]
    have hE : (((⟨(Lib.trimS s.data.toList cutset).toArray⟩ : ByteArray).toList == (⟨#[]⟩ : ByteArray).toList)) = allN (fun j => letB (bt s j) || digB (bt s j)) s.size := by
      rw [qfW, Bool.eq_iff_iff, decide_eq_true_iff, qbh]
      have : ((⟨(Lib.trimS s.data.toList cutset).toArray⟩ : ByteArray) = ⟨#[]⟩) ↔ Lib.trimS s.data.toList cutset = [] := by
        constructor
        · intro he
          have := congrArg (fun x : ByteArray => x.data.toList) he
          simpa using this
        · intro he; rw [he]
      rw [this, qpF]
      constructor
      · intro hx j hj
        have hj' : j < s.data.toList.length := by omega
        have := hx _ (List.getElem_mem hj')
        rw [qlx, ← qqR hj'] at this
        exact this
      · intro hx x hm
        obtain ⟨j, hj, rfl⟩ := List.getElem_of_mem hm
        have := hx j (by omega)
        rw [qlx, ← qqR hj]
        exact this
    rw [hE]
    have h0 : atS s 0 = some (bt s 0 : Int) := qpz (j := 0) (by omega)
    have hI2 : decide (Lib.indexByte letters (bt s 0 : Int).toNat.toUInt8 ≥ 0) = letB (bt s 0) := by
      rw [Int.toNat_natCast]; exact qnK _ qrg
    have hF : ∀ b : Bool, (bif b then (atS s 0).bind fun y1 => (qfb n (⟨#[97, 98, 99, 100, 101, 102, 103, 104, 105, 106, 107, 108, 109, 110, 111, 112, 113, 114, 115, 116, 117, 118, 119, 120, 121, 122]⟩ : ByteArray) (⟨y1⟩ : IntK .u8)).bind fun r3 => some (decide (r3 ≥ 0)) else some false) = some (b && letB (bt s 0)) := by
      intro b
      cases b with
      | false => rfl
      | true =>
        rw [h0]
        simp only [cond_true, Option.bind_some, qfb, Bool.true_and]
        exact congrArg some hI2
    rw [hF]
    congr 1
    have hs' : (decide (1 ≤ s.size) && decide (s.size ≤ 8)) = true := by simp [hs]
    unfold nameB
    rw [hs', Bool.true_and, Bool.eq_iff_iff, Bool.and_eq_true, qbh, qbh]
    simp only [chB, Bool.or_eq_true, Bool.and_eq_true, decide_eq_true_eq]
    constructor
    · rintro ⟨h1, h2⟩ j hj
      rcases Nat.eq_zero_or_pos j with rfl | hp
      · exact .inl h2
      · exact (h1 j hj).imp id (fun h => ⟨h, hp⟩)
    · intro h1
      refine ⟨fun j hj => (h1 j hj).imp id (fun h => h.1), ?_⟩
      rcases h1 0 (by omega) with h2 | h2
      · exact h2
      · omega

/-! ### Lists of names -/

def strAt (xs : List ByteArray) (j : Nat) : ByteArray := xs.getD j ByteArray.empty
theorem qke {xs : List ByteArray} {j : Nat} (h : j < xs.length) : strAt xs j = xs[j] := by simp [strAt, h]
theorem qlf {xs : List ByteArray} {j : Nat} (h : j < xs.length) : idx xs (j : Int) = some (strAt xs j) := by rw [qgV h, qke h]
def neB (xs : List ByteArray) (j i : Nat) : Bool := !decide (strAt xs i = strAt xs j)
def namesB (xs : List ByteArray) : Bool := allN (fun j => nameB (strAt xs j) && allN (neB xs j) j) xs.length

theorem qi3 {xs : List ByteArray} (h : okL okS xs) : Ev (fun n => qev n xs) (namesB xs) := by
  have hl := h.len
  have hL2 : ∀ j, j < xs.length → Ev (fun n => qcq xs (j : Int) n 0) (bif allN (neB xs j) j then .nxt (j : Int) else .ret false) := by
    intro j hj
    refine qdP ?_ (fun i hi X hX => Ev.succ ?_)
    · exact Ev.succ (by simp only [qcq, qv (Nat.le_refl _), cond_false]; exact .done)
    · simp only [qcq, qu hi, cond_true, qlf (show i < xs.length by omega), qlf hj, Option.bind_some, qfW, qr (show i < 9223372036854775807 by omega)]
      unfold neB
      cases decide (strAt xs i = strAt xs j)
      · exact hX
      · exact .done
  have hL1 : Ev (fun n => qcs xs n 0) (bif namesB xs then .nxt (xs.length : Int) else .ret false) := by
    refine qdP ?_ (fun j hj X hX => Ev.succ ?_)
    · exact Ev.succ (by simp only [qcs, qv (Nat.le_refl _), cond_false]; exact .done)
    · simp only [qcs, qu hj, cond_true, qlf hj, Option.bind_some, qr (show j < 9223372036854775807 by omega)]
      refine Ev.bind (qjW (by rw [qke hj]; exact h.at hj)) ?_
      cases nameB (strAt xs j)
      · exact .done
      · refine Ev.ff rfl (Ev.bind (hL2 j hj) ?_)
        cases allN (neB xs j) j
        · exact .done
        · exact hX
  unfold qev
  refine Ev.bind hL1 ?_
  cases namesB xs <;> exact .done

theorem qm1 {xs : List ByteArray} {v : ByteArray} (hl : xs.length ≤ 1048576) : Ev (fun n => qdz n xs v) (ixL (fun x => decide (v = x)) xs) :=
  qe3 (fin := (xs.length : Int)) (Lf := qba xs v) (pf := fun _ x => some (decide (v = x))) (fun _ _ => .done)
    (fun n => by simp only [qba, qv (Nat.le_refl _), cond_false])
    (fun n j x hx => by
      have hj := (List.getElem?_eq_some_iff.1 hx).1
      simp only [qba, qu hj, cond_true, qaH hx, Option.bind_some, qfW, qr (show j < 9223372036854775807 by omega)])
    (fun n => by unfold qdz; congr 1; funext o; cases o <;> rfl)

theorem qlQ {xs : List ByteArray} {v : ByteArray} (hl : xs.length ≤ 1048576) : Ev (fun n => qcw n xs v) (xs.any fun x => decide (v = x)) := by
  unfold qcw
  exact Ev.bind (qm1 hl) (Ev.now (by rw [qhO]))

theorem qhr {xs : List ByteArray} (h : okL okS xs) : Ev (fun n => qc9 n xs) (namesB xs) := by
  have hl := h.len
  have hL1 : Ev (fun n => qcu xs n 0) (bif namesB xs then .nxt (xs.length : Int) else .ret false) := by
    refine qdP ?_ (fun j hj X hX => Ev.succ ?_)
    · exact Ev.succ (by simp only [qcu, qv (Nat.le_refl _), cond_false]; exact .done)
    · have hs : subS xs 0 (j : Int) = some (xs.take j) := by
        unfold subS
        rw [if_pos ⟨by omega, by omega, by omega⟩]
        simp
      simp only [qcu, qu hj, cond_true, qlf hj, Option.bind_some, hs, qmg (show okS (strAt xs j) by rw [qke hj]; exact h.at hj), qr (show j < 9223372036854775807 by omega)]
      cases nameB (strAt xs j)
      · exact .done
      · refine Ev.ff rfl (Ev.bind (qlQ (by simp; omega)) ?_)
        have : ((xs.take j).any fun x => decide (strAt xs j = x)) = !allN (neB xs j) j := by
          rw [qnl (d := ByteArray.empty)]
          congr 1
          rw [List.length_take, Nat.min_eq_left (by omega)]
          refine qf3 (fun i hi => ?_)
          unfold neB strAt
          congr 1
          have : (xs.take j).getD i ByteArray.empty = xs.getD i ByteArray.empty := by simp [List.getD_eq_getElem?_getD, hi]
          rw [this]
          exact decide_eq_decide.2 eq_comm
        rw [this]
        cases allN (neB xs j) j
        · exact .done
        · exact hX
  unfold qc9
  refine Ev.bind hL1 ?_
  cases namesB xs <;> exact .done
end Go.Fw


namespace Go.Fw
open Go
set_option maxRecDepth 100000

theorem ql2 {n : Nat} {x lo hi : Int} : qeC n x lo hi = some (!inI x lo hi) := by simp only [qeC, qdp, Option.bind_some]

theorem qeT {xs : List Int} {lo hi : Int} (hl : xs.length ≤ 1048576) : Ev (fun n => qbv n xs lo hi) (xs.all fun x => inI x lo hi) := by
  have h1 : Ev (fun n => qaB n xs lo hi) (ixL (fun x => !inI x lo hi) xs) :=
    qe3 (fin := (xs.length : Int)) (Lf := qT xs lo hi) (pf := fun _ x => some (!inI x lo hi)) (fun _ _ => .done)
      (fun n => by simp only [qT, qv (Nat.le_refl _), cond_false])
      (fun n j x hx => by
        have hj := (List.getElem?_eq_some_iff.1 hx).1
        simp only [qT, qu hj, cond_true, qaH hx, Option.bind_some, ql2, qr (show j < 9223372036854775807 by omega)])
      (fun n => by unfold qaB; congr 1; funext o; cases o <;> rfl)
  unfold qbv qaR
  refine Ev.bind (Ev.bind h1 (Ev.now rfl)) (Ev.now ?_)
  rw [qhO, qj7]

def stepB (xs : List Int) (j : Nat) : Bool := decide (j = 0) || decide (at0 xs (j - 1) < at0 xs j)
def incB (xs : List Int) : Bool := allN (stepB xs) xs.length

theorem qhx {xs : List Int} (hl : xs.length ≤ 1048576) : Ev (fun n => qcA n xs) (incB xs) := by
  have hL : Ev (fun n => qaT xs n 1) (bif incB xs then .nxt (max 1 xs.length : Int) else .ret false) := by
    by_cases h0 : xs.length = 0
    · have hb : incB xs = true := by unfold incB; rw [h0]; rfl
      rw [hb]
      refine Ev.succ ?_
      have : decide ((1 : Int) < (xs.length : Int)) = false := by rw [h0]; decide
      simp only [qaT, this, cond_false]
      exact Ev.now (by rw [h0]; rfl)
    · have := qop (Lf := qaT xs) (len := xs.length) (i0 := 1) (f := stepB xs) (bad := false) (fin := .nxt (max 1 xs.length : Int)) (by omega)
        (Ev.succ (by
          simp only [qaT, qv (Nat.le_refl _), cond_false]
          exact Ev.now (by congr 2; omega)))
        (fun j h1 hj X hX => Ev.succ (by
          simp only [qaT, qu hj, cond_true, qr (show j < 9223372036854775807 by omega), show (j : Int) - 1 = ((j - 1 : Nat) : Int) by omega, qf5 (show -9223372036854775808 ≤ ((j - 1 : Nat) : Int) by omega) (by omega), qb5 (show j - 1 < xs.length by omega), qb5 hj, Option.bind_some]
          unfold stepB
          by_cases hc : at0 xs (j - 1) < at0 xs j
          · have e1 : decide (at0 xs (j - 1) ≥ at0 xs j) = false := by simp; omega
            rw [e1]; simp only [hc, decide_true, Bool.or_true, cond_true, cond_false]; exact hX
          · have e1 : decide (at0 xs (j - 1) ≥ at0 xs j) = true := by simp; omega
            have e2 : decide (j = 0) = false := by simp; omega
            rw [e1, e2]; simp only [hc, decide_false, Bool.or_self, cond_true, cond_false]; exact .done))
      have e : allN (fun j => stepB xs (1 + j)) (xs.length - 1) = incB xs := by
        unfold incB
        rw [Bool.eq_iff_iff, qbh, qbh]
        constructor
        · intro h j hj
          cases j with
          | zero => rfl
          | succ j => have := h j (by omega); rwa [Nat.add_comm] at this
        · intro h j hj
          exact h (1 + j) (by omega)
      rw [e] at this
      exact this
  unfold qcA
  refine Ev.bind hL ?_
  cases incB xs <;> exact .done

def lenB {α : Type} (xs : List α) (lo hi : Nat) : Bool := decide (lo ≤ xs.length) && decide (xs.length ≤ hi)
theorem qmE {α : Type} {xs : List α} {lo hi : Nat} : inI (xs.length : Int) (lo : Int) (hi : Int) = lenB xs lo hi := by
  unfold inI lenB; rw [Bool.eq_iff_iff]; simp
def axisB (xs : List Int) : Bool := lenB xs 1 4 && ((xs.all fun x => inI x 0 100000) && incB xs)

theorem qmv {xs : List Int} (hl : xs.length ≤ 1048576) : Ev (fun n => qf9 n xs) (axisB xs) := by
  simp only [qf9, qap, Option.bind_some, qdp, show inI (xs.length : Int) 1 4 = lenB xs 1 4 from qmE (lo := 1) (hi := 4)]
  unfold axisB
  cases lenB xs 1 4
  · exact .done
  · refine Ev.tt rfl (Ev.bind (qeT hl) ?_)
    cases (xs.all fun x => inI x 0 100000)
    · exact .done
    · exact Ev.tt rfl (Ev.bind (qhx hl) .done)

theorem qlE {xs : List Int} (hl : xs.length ≤ 1048576) : Ev (fun n => qfy n xs) (axisB xs) := by
  have hL : Ev (fun n => qck xs n 0) (bif allN (fun j => inI (at0 xs j) 0 100000 && stepB xs j) xs.length then .nxt (xs.length : Int) else .ret false) := by
    refine qdP ?_ (fun j hj X hX => Ev.succ ?_)
    · exact Ev.succ (by simp only [qck, qv (Nat.le_refl _), cond_false]; exact .done)
    · simp only [qck, qu hj, cond_true, qb5 hj, Option.bind_some, qdX, qr (show j < 9223372036854775807 by omega)]
      cases inI (at0 xs j) 0 100000
      · exact .done
      · simp only [Bool.not_true, cond_false, Bool.true_and]
        unfold stepB
        by_cases h0 : j = 0
        · subst h0
          exact Ev.ff (by decide) hX
        · simp only [show (j : Int) - 1 = ((j - 1 : Nat) : Int) by omega, qf5 (show -9223372036854775808 ≤ ((j - 1 : Nat) : Int) by omega) (by omega), qb5 (show j - 1 < xs.length by omega), Option.bind_some]
          have e2 : decide (j = 0) = false := by simp; omega
          have e3 : decide ((j : Int) > 0) = true := by simp; omega
          rw [e2, e3]
          simp only [cond_true, Bool.false_or]
          by_cases hc : at0 xs (j - 1) < at0 xs j
          · have e1 : decide (at0 xs (j - 1) ≥ at0 xs j) = false := by simp; omega
            rw [e1]; simp only [hc, decide_true, cond_true, cond_false]; exact hX
          · have e1 : decide (at0 xs (j - 1) ≥ at0 xs j) = true := by simp; omega
            rw [e1]; simp only [hc, decide_false, cond_true, cond_false]; exact .done
  have e : axisB xs = (allN (fun j => inI (at0 xs j) 0 100000 && stepB xs j) xs.length && lenB xs 1 4) := by
    unfold axisB incB
    rw [qij, qgI (d := 0), Bool.and_comm]
    rfl
  rw [e]
  unfold qfy
  refine Ev.bind hL ?_
  cases allN (fun j => inI (at0 xs j) 0 100000 && stepB xs j) xs.length
  · exact .done
  · simp only [cond_true, qiZ, qj4, Bool.true_and]
    exact Ev.now (by congr 1; unfold lenB; rw [Bool.eq_iff_iff]; simp; omega)

def tableB (t : qH) : Bool := axisB t.Slews && (axisB t.Loads && (decide (t.Values.length = t.Slews.length * t.Loads.length) && (t.Values.all fun x => inI x (-1000000) 1000000)))

theorem qor {a b : Nat} (ha : a ≤ 1048576) (hb : b ≤ 1048576) : W64 ((a : Int) * (b : Int)) = ((a * b : Nat) : Int) := by
  have h : a * b ≤ 1048576 * 1048576 := Nat.mul_le_mul ha hb
  have e : (a : Int) * (b : Int) = ((a * b : Nat) : Int) := by simp
  rw [e]
  exact qf5 (by omega) (by omega)

theorem qof {t : qH} (h : qgA t) : Ev (fun n => qgy n t) (tableB t) := by
  unfold qgy tableB
  refine Ev.bind (qmv h.Slews.len) ?_
  cases axisB t.Slews
  · exact .done
  · refine Ev.tt rfl (Ev.bind (qmv h.Loads.len) ?_)
    cases axisB t.Loads
    · exact .done
    · rw [qor h.Slews.len h.Loads.len]
      have e : (((t.Values.length : Nat) : Int) == ((t.Slews.length * t.Loads.length : Nat) : Int)) = decide (t.Values.length = t.Slews.length * t.Loads.length) := by rw [Bool.eq_iff_iff]; simp; omega
      rw [e]
      cases decide (t.Values.length = t.Slews.length * t.Loads.length)
      · exact .done
      · exact Ev.tt rfl (Ev.tt rfl (Ev.bind (qeT h.Values.len) .done))

theorem qny {t : qH} (h : qgA t) : Ev (fun n => qgQ n t) (tableB t) := by
  have hl := h.Values.len
  have hL : Ev (fun n => qcQ t n 0) (bif (t.Values.all fun x => inI x (-1000000) 1000000) then .nxt (t.Values.length : Int) else .ret false) :=
    qkh (fun n => by simp only [qcQ, qv (Nat.le_refl _), cond_false]) (fun j hj X hX => by
      simp only [qcQ, qu hj, cond_true, qgV hj, Option.bind_some, qdX, qr (show j < 9223372036854775807 by omega)]
      cases inI t.Values[j] (-1000000) 1000000
      · exact .done
      · exact hX)
  unfold qgQ tableB
  refine Ev.bind (b := !(axisB t.Slews && (axisB t.Loads && decide (t.Values.length = t.Slews.length * t.Loads.length)))) ?_ ?_
  · refine Ev.bind (qlE h.Slews.len) ?_
    cases axisB t.Slews
    · exact .done
    · refine Ev.ff rfl (Ev.bind (qlE h.Loads.len) ?_)
      cases axisB t.Loads
      · exact .done
      · refine Ev.ff rfl (Ev.now ?_)
        rw [qor h.Slews.len h.Loads.len]
        congr 1
        rw [Bool.eq_iff_iff]; simp; omega
  · cases axisB t.Slews
    · exact .done
    · cases axisB t.Loads
      · exact .done
      · cases decide (t.Values.length = t.Slews.length * t.Loads.length)
        · exact .done
        · refine Ev.ff rfl (Ev.bind hL ?_)
          cases (t.Values.all fun x => inI x (-1000000) 1000000) <;> exact .done
end Go.Fw


namespace Go.Fw
open Go
set_option maxRecDepth 100000

instance : Inhabited qas := ⟨⟨ByteArray.empty, 0, 0, false⟩⟩
instance : Inhabited qH := ⟨⟨[], [], []⟩⟩
instance : Inhabited qag := ⟨⟨0, 0, 0, 0, [], []⟩⟩
instance : Inhabited qJ := ⟨⟨ByteArray.empty, 0, [], [], [], 0, 0⟩⟩
instance : Inhabited qq := ⟨⟨ByteArray.empty, 0, []⟩⟩
instance : Inhabited qaj := ⟨⟨ByteArray.empty, 0, 0⟩⟩
instance : Inhabited qac := ⟨⟨[], [], [], []⟩⟩

theorem lastE {j m : Nat} (h : j < m) (hm : m ≤ 1048576) : ((j : Int) == W64 ((m : Int) - 1)) = decide (j + 1 = m) := by
  rcases qqJ h with h | h
  · exact h
  · omega
theorem qhJ {α : Type} [Inhabited α] {xs : List α} {g : α → ByteArray} {j : Nat} (h : j < xs.length) : strAt (xs.map g) j = g (gt xs j) := by
  rw [qke (by simpa using h), qiV h]; simp
/-- Names that differ, by the list that they are taken from. -/
theorem qjo {α : Type} {xs : List α} {g : α → ByteArray} {ok : α → Prop} (h : okL ok xs) (hg : ∀ x, ok x → okS (g x)) : okL okS (xs.map g) :=
  ⟨by rw [List.length_map]; exact h.1, fun y hy => by
    obtain ⟨x, hx, rfl⟩ := List.mem_map.1 hy
    exact hg x (h.2 x hx)⟩
theorem qiu {α β : Type} {xs : List α} {g : α → β} {j : Nat} (h : j < xs.length) (hl : xs.length ≤ 1048576) {y : β} : appS ((xs.take j).map g) [y] = some ((xs.take j).map g ++ [y]) :=
  qee (by simp; omega)

/-! ### Pins -/

def pinB (ps : List qas) (j : Nat) : Bool :=
  bif decide (j + 1 = ps.length) then ((gt ps j).Dir == 2) && (((gt ps j).Cap == 0) && !(gt ps j).Clock) else ((gt ps j).Dir == 1) && inI (gt ps j).Cap 0 500
def pinsB (ps : List qas) : Bool := allN (pinB ps) ps.length && (lenB ps 2 5 && namesB (ps.map qas.Name))
def clkN (ps : List qas) (j : Nat) : Nat := cntP (fun i => (gt ps i).Clock) j

theorem qnT {ps : List qas} (h : okL qji ps) : Ev (fun n => qgS n ps) (pinsB ps) := by
  have hl := h.len
  have hL : Ev (fun n => qbS ps n ([] : List ByteArray) 0) (bif allN (pinB ps) ps.length then .nxt (ps.map qas.Name, (ps.length : Int)) else .ret false) := by
    refine loopN (Lf := qbS ps) (S := fun j => (ps.take j).map qas.Name) (pinB ps) (fun n => ?_) (fun j hj hp X hX => ?_)
    · simp only [qbS, qv (Nat.le_refl _), cond_false, List.take_length]
    · simp only [qbS, qu hj, cond_true, qat hj, Option.bind_some, qiu hj hl, qfv (g := qas.Name) hj, lastE hj hl, bne, qbg, qdp, qr (show j < 9223372036854775807 by omega)]
      generalize hc : pinB ps j = c at hX ⊢
      unfold pinB at hc
      cases hd : decide (j + 1 = ps.length)
      · rw [hd] at hc
        simp only [cond_false] at hc ⊢
        subst hc
        exact Ev.okP (fun h1 => Ev.okP1 (fun h2 => hX (by rw [h1, h2]; rfl)))
      · rw [hd] at hc
        simp only [cond_true] at hc ⊢
        subst hc
        refine Ev.okP (fun h1 => Ev.okP (fun h2 => Ev.chkP1 (fun h3 => hX (by rw [h1, h2, h3]; rfl))))
  unfold qgS pinsB
  refine Ev.bind hL ?_
  cases allN (pinB ps) ps.length
  · exact .done
  · simp only [cond_true, qbN, qdp, Option.bind_some, show inI (ps.length : Int) 2 5 = lenB ps 2 5 from qmE (lo := 2) (hi := 5), Bool.true_and]
    exact Ev.andP (fun _ => Ev.last (qhr (qjo h (fun x hx => hx.Name))))

/-- A check of the reference, one pin. -/
def pinS (ps : List qas) (j : Nat) : Bool := allN (neB (ps.map qas.Name) j) j && ((nameB (gt ps j).Name && inI (gt ps j).Cap 0 500) && (bif decide (j + 1 = ps.length) then ((gt ps j).Dir == 2) && (((gt ps j).Cap == 0) && !(gt ps j).Clock) else ((gt ps j).Dir == 1)))

theorem qqC {ps : List qas} : (lenB ps 2 5 && allN (pinS ps) ps.length) = pinsB ps := by
  have e : namesB (ps.map qas.Name) = allN (fun j => nameB (gt ps j).Name && allN (neB (ps.map qas.Name) j) j) ps.length := by
    unfold namesB
    rw [List.length_map]
    exact qf3 (fun j hj => by rw [qhJ hj])
  unfold pinsB
  rw [e, ← Bool.and_assoc, Bool.and_comm (allN (pinB ps) ps.length), Bool.and_assoc, ← qij]
  congr 1
  refine qf3 (fun j hj => ?_)
  unfold pinS pinB
  cases hd : decide (j + 1 = ps.length)
  · simp only [cond_false]
    cases allN (neB (ps.map qas.Name) j) j <;> cases nameB (gt ps j).Name <;> cases inI (gt ps j).Cap 0 500 <;> cases ((gt ps j).Dir == 1) <;> rfl
  · simp only [cond_true]
    cases hcap : ((gt ps j).Cap == 0)
    · simp
    · have : inI (gt ps j).Cap 0 500 = true := by rw [beq_iff_eq] at hcap; rw [hcap]; rfl
      rw [this]
      cases allN (neB (ps.map qas.Name) j) j <;> cases nameB (gt ps j).Name <;> cases ((gt ps j).Dir == 2) <;> cases (gt ps j).Clock <;> rfl

theorem qn9 {c : qJ} (h : okL qji c.Pins) : Ev (fun n => qgn n c) (bif pinsB c.Pins then (((clkN c.Pins c.Pins.length : Nat) : Int), true) else (0, false)) := by
  have hl := h.len
  have hL2 : ∀ j, j < c.Pins.length → Ev (fun n => qcM c (j : Int) (gt c.Pins j) n 0) (bif allN (neB (c.Pins.map qas.Name) j) j then .nxt (j : Int) else .ret (0, false)) := by
    intro j hj
    refine qdP ?_ (fun i hi X hX => Ev.succ ?_)
    · exact Ev.succ (by simp only [qcM, qv (Nat.le_refl _), cond_false]; exact .done)
    · simp only [qcM, qu hi, cond_true, qat (show i < c.Pins.length by omega), Option.bind_some, qfW, qr (show i < 9223372036854775807 by omega)]
      unfold neB
      rw [qhJ (g := qas.Name) (show i < c.Pins.length by omega), qhJ (g := qas.Name) hj]
      exact Ev.chkP1 (fun _ => hX)
  have hL1 : Ev (fun n => qbV c n 0 0) (bif allN (pinS c.Pins) c.Pins.length then .nxt (((clkN c.Pins c.Pins.length : Nat) : Int), (c.Pins.length : Int)) else .ret (0, false)) := by
    refine loopN (Lf := qbV c) (S := fun j => ((clkN c.Pins j : Nat) : Int)) (pinS c.Pins) (fun n => ?_) (fun j hj hp X hX => ?_)
    · simp only [qbV, qv (Nat.le_refl _), cond_false]
    · have hn : clkN c.Pins j ≤ j := qfd
      have ejl : ((j : Int) == W64 ((c.Pins.length : Int) - 1)) = decide (j + 1 = c.Pins.length) := lastE hj hl
      have elt : decide ((j : Int) < W64 ((c.Pins.length : Int) - 1)) = !decide (j + 1 = c.Pins.length) := by
        rw [qf5 (by omega) (by omega), Bool.eq_iff_iff]; simp; omega
      simp only [qbV, qu hj, cond_true, qat hj, Option.bind_some, qr (show j < 9223372036854775807 by omega), qr (show clkN c.Pins j < 9223372036854775807 by omega), ejl, elt, qdX]
      unfold pinS
      refine Ev.bind (hL2 j hj) ?_
      cases ha : allN (neB (c.Pins.map qas.Name) j) j
      · exact .done
      · simp only [cond_true, Bool.true_and]
        refine Ev.chkT ?_ (fun h1 => ?_)
        · exact Ev.or (qjW (qh7 h hj).Name) (fun _ => .done)
        · refine Ev.chkT1 ?_ (fun h2 => ?_)
          · cases decide (j + 1 = c.Pins.length)
            · exact .done
            · simp only [cond_true, Bool.not_true, cond_false, bne, qbg]
              cases ((gt c.Pins j).Dir == 2) <;> cases ((gt c.Pins j).Cap == 0) <;> cases (gt c.Pins j).Clock <;> exact .done
          · have hX := hX (by unfold pinS; rw [ha, h1, h2]; rfl)
            have hck : clkN c.Pins (j + 1) = clkN c.Pins j + (bif (gt c.Pins j).Clock then 1 else 0) := rfl
            rw [hck] at hX
            cases hc : (gt c.Pins j).Clock
            · rw [hc] at hX; exact Ev.ff rfl hX
            · rw [hc] at hX; exact Ev.tt rfl hX
  rw [← qqC]
  unfold qgn
  refine Ev.guard ?_ (fun h1 => ?_)
  · unfold lenB
    have e1 : decide ((c.Pins.length : Int) < 2) = !decide (2 ≤ c.Pins.length) := by rw [Bool.eq_iff_iff]; simp; omega
    have e2 : decide ((c.Pins.length : Int) > 5) = !decide (c.Pins.length ≤ 5) := by rw [Bool.eq_iff_iff]; simp; omega
    rw [e1, e2]
    cases decide (2 ≤ c.Pins.length) <;> cases decide (c.Pins.length ≤ 5) <;> exact .done
  · refine Ev.bind hL1 ?_
    cases allN (pinS c.Pins) c.Pins.length <;> exact .done

/-! ### Lists of tables -/

def mnL (xs : List Int) : Int := (xs.drop 1).foldl (fun m y => if y < m then y else m) (at0 xs 0)
def mxL (xs : List Int) : Int := (xs.drop 1).foldl (fun m y => if y > m then y else m) (at0 xs 0)

theorem qlI {t : qH} (h : tableB t = true) : 1 ≤ t.Values.length := by
  unfold tableB axisB lenB at h
  simp only [Bool.and_eq_true, decide_eq_true_eq] at h
  obtain ⟨⟨⟨h1, _⟩, _⟩, ⟨⟨h2, _⟩, _⟩, h3, _⟩ := h
  rw [h3]
  exact Nat.mul_pos h1 h2

theorem qqv {xs : List Int} (h1 : 1 ≤ xs.length) (hl : xs.length ≤ 1048576) : Ev (fun n => qey n xs) (mnL xs) := by
  have hL := (qkw (Lf := fun n t j => qbD xs n t j) (xs := xs) (step := fun (m y : Int) => if y < m then y else m) (fin := fun t => (t, (xs.length : Int))) 1 (at0 xs 0) (fun _ _ => True) h1 trivial (fun _ _ _ _ => trivial)
    (fun n t => by simp only [qbD, qv (Nat.le_refl _), cond_false])
    (fun j t hj _ X hX => by simpa only [qbD, qu hj, cond_true, qgV hj, Option.bind_some, qr (show j < 9223372036854775807 by omega)] using hX)).1
  unfold qey
  rw [show decide ((xs.length : Int) < 1) = false by simp; omega, show idx xs (0 : Int) = some (at0 xs 0) from qb5 (j := 0) (by omega)]
  simp only [cond_false, Option.bind_some]
  exact Ev.bind hL .done

theorem qn5 {t : qH} (h : qgA t) : Ev (fun n => qeF n t) (bif tableB t then (⟨mnL t.Values, mxL t.Values⟩, 0) else (⟨0, 0⟩, 1)) := by
  unfold qeF
  refine Ev.chk1 (qny h) (fun hb => ?_)
  have h1 := qlI hb
  have hl := h.Values.len
  have hL := (qkw (Lf := fun n (t' : Int × Int) j => qbE t n t'.1 t'.2 j) (xs := t.Values) (step := fun (m : Int × Int) y => (if y < m.1 then y else m.1, if y > m.2 then y else m.2)) (fin := fun t' => (t'.1, t'.2, (t.Values.length : Int))) 1 (at0 t.Values 0, at0 t.Values 0) (fun _ _ => True) h1 trivial (fun _ _ _ _ => trivial)
    (fun n t => by simp only [qbE, qv (Nat.le_refl _), cond_false])
    (fun j t hj _ X hX => by simpa only [qbE, qu hj, cond_true, qgV hj, Option.bind_some, qr (show j < 9223372036854775807 by omega)] using hX)).1
  have hf : ∀ (ys : List Int) (a b : Int), ys.foldl (fun (m : Int × Int) y => (if y < m.1 then y else m.1, if y > m.2 then y else m.2)) (a, b) = (ys.foldl (fun m y => if y < m then y else m) a, ys.foldl (fun m y => if y > m then y else m) b) := by
    intro ys
    induction ys with
    | nil => intro a b; rfl
    | cons y ys ih => intro a b; simp only [List.foldl_cons, ih]
  rw [hf] at hL
  rw [show idx t.Values (0 : Int) = some (at0 t.Values 0) from qb5 (j := 0) (by omega)]
  simp only [Option.bind_some]
  exact Ev.bind hL .done

def tabB (pos : Bool) (t : qH) : Bool := tableB t && (!pos || decide (0 ≤ mnL t.Values))
def tablesB (ts : List qH) (pos : Bool) : Bool := decide (ts.length = 2) && ts.all (tabB pos)

theorem qiy {ts : List qH} {pos : Bool} (h : okL qgA ts) : Ev (fun n => qdO n ts pos) (tablesB ts pos) := by
  have hl := h.len
  have h1 : Ev (fun n => qah n ts pos) (ixL (fun x => !tabB pos x) ts) :=
    qe3 (fin := (ts.length : Int)) (Lf := qN ts pos) (pf := fun n x => qeH n x pos) (fun x hx => by
        unfold qeH tabB
        refine Ev.or (qof (h.2 x hx)) (fun hb => ?_)
        cases pos
        · exact .done
        · refine Ev.tt rfl (Ev.bind (qqv (qlI hb) (h.2 x hx).Values.len) (Ev.now ?_))
          congr 1
          rw [Bool.eq_iff_iff]; simp)
      (fun n => by simp only [qN, qv (Nat.le_refl _), cond_false])
      (fun n j x hx => by
        have hj := (List.getElem?_eq_some_iff.1 hx).1
        simp only [qN, qu hj, cond_true, qaH hx, Option.bind_some, qr (show j < 9223372036854775807 by omega)])
      (fun n => by unfold qah; congr 1; funext o; cases o <;> rfl)
  unfold qdO qaw tablesB
  rw [show ((ts.length : Int) == 2) = decide (ts.length = 2) by rw [Bool.eq_iff_iff]; simp; omega]
  refine Ev.andP (fun _ => Ev.bind (Ev.bind h1 (Ev.now rfl)) (Ev.now ?_))
  rw [qhO, qj7]

theorem qgR {ts : List qH} {pos : Bool} (h : okL qgA ts) : Ev (fun n => qcC n ts pos) (tablesB ts pos) := by
  unfold qcC tablesB
  rw [show ((ts.length : Int) != 2) = !decide (ts.length = 2) by rw [Bool.eq_iff_iff]; simp; omega]
  simp only [qbg]
  refine Ev.andP (fun h2 => ?_)
  have h2 : ts.length = 2 := by simpa using h2
  have hL : Ev (fun n => qbI ts pos n 0) (bif allN (fun j => tabB pos (gt ts j)) ts.length then .nxt (2 : Int) else .ret false) := by
    refine qdP (len := ts.length) ?_ (fun j hj X hX => Ev.succ ?_)
    · rw [h2]; exact Ev.succ (by simp only [qbI]; exact .done)
    · simp only [qbI, show decide ((j : Int) < 2) = true by simp; omega, cond_true, qat hj, Option.bind_some, qr (show j < 9223372036854775807 by omega)]
      refine Ev.bind (qn5 (qh7 h hj)) ?_
      unfold tabB
      cases tableB (gt ts j)
      · exact .done
      · simp only [cond_true, Bool.true_and]
        refine Ev.ff rfl ?_
        cases pos
        · exact hX
        · refine Ev.tt rfl ?_
          rw [show decide (mnL (gt ts j).Values < 0) = !decide (0 ≤ mnL (gt ts j).Values) by rw [Bool.eq_iff_iff]; simp]
          simp only [qbg]
          exact Ev.okP1 (fun _ => hX)
  rw [qgY]
  refine Ev.bind hL ?_
  cases allN (fun j => tabB pos (gt ts j)) ts.length <;> exact .done
end Go.Fw


namespace Go.Fw
open Go
set_option maxRecDepth 100000

theorem qg9 {α : Type} [Inhabited α] {xs : List α} {x : Int} (h0 : 0 ≤ x) (h1 : x < xs.length) : idx xs x = some (gt xs x.toNat) := by
  have := qat (xs := xs) (j := x.toNat) (by omega)
  rwa [← qnC h0] at this
theorem qmm {q : Nat → Bool} {m n : Nat} (h : m ≤ n) : cntP q m ≤ cntP q n := by
  induction n with
  | zero => obtain rfl : m = 0 := by omega
            exact Nat.le_refl _
  | succ n ih =>
    rcases Nat.lt_or_eq_of_le h with h | rfl
    · exact Nat.le_trans (ih (by omega)) (Nat.le_add_right _ _)
    · exact Nat.le_refl _
theorem qiG {m k : Nat} : decide ((m : Int) ≤ (k : Int)) = decide (m ≤ k) := by rw [Bool.eq_iff_iff]; simp
theorem qnt {q : Nat → Bool} {n i j : Nat} (hi : i < j) (hj : j < n) (h1 : q i = true) (h2 : q j = true) : 2 ≤ cntP q n := by
  have e1 : cntP q (i + 1) = cntP q i + 1 := by rw [cntP, h1]; rfl
  have e2 : cntP q (j + 1) = cntP q j + 1 := by rw [cntP, h2]; rfl
  have m1 := qmm (q := q) (show i + 1 ≤ j by omega)
  have m2 := qmm (q := q) (show j + 1 ≤ n by omega)
  omega
theorem qpc {q : Nat → Bool} {n i j : Nat} (hn : cntP q n ≤ 1) (hi : i < n) (hj : j < n) (h1 : q i = true) (h2 : q j = true) : i = j := by
  rcases Nat.lt_trichotomy i j with h | h | h
  · have := qnt h hj h1 h2; omega
  · exact h
  · have := qnt h hi h2 h1; omega

/-! ### Arcs -/

def clkIx (ps : List qas) : Int := ixL (fun p => p.Clock) ps
def clkAt (ps : List qas) (x : Int) : Bool := (gt ps x.toNat).Clock

theorem qp5 {c : qJ} (hl : c.Pins.length ≤ 1048576) : Ev (fun n => qe5 n c) (clkIx c.Pins) := by
  unfold qe5
  refine Ev.bind (b := clkIx c.Pins) ?_ .done
  exact qe3 (fin := (c.Pins.length : Int)) (Lf := qO c.Pins) (pf := fun n x => qfc n x) (fun _ _ => .done)
    (fun n => by simp only [qO, qv (Nat.le_refl _), cond_false])
    (fun n j x hx => by
      have hj := (List.getElem?_eq_some_iff.1 hx).1
      simp only [qO, qu hj, cond_true, qaH hx, Option.bind_some, qr (show j < 9223372036854775807 by omega)])
    (fun n => by unfold qaO; congr 1; funext o; cases o <;> rfl)

def arcI (ps : List qas) (a : qag) : Bool :=
  bif (a.Kind == 4) || (a.Kind == 5) then
    (a.Sense == 0) && (((a.Slew.length : Int) == 0) && (tablesB a.Delay false && ((a.From == clkIx ps) && (decide (a.From ≥ 0) && (inI a.To 0 (ps.length - 2) && !(a.To == a.From))))))
  else
    (tablesB a.Delay true && (tablesB a.Slew true && ((a.To == (ps.length : Int) - 1) && inI a.From 0 (ps.length - 2)))) &&
      (bif a.Kind == 1 then !clkAt ps a.From && inI a.Sense 1 3 else (bif (a.Kind == 2) || (a.Kind == 3) then clkAt ps a.From && (a.Sense == 0) else false))

def arcS (ps : List qas) (a : qag) : Bool :=
  (inI a.From 0 (ps.length - 2) && inI a.To 0 (ps.length - 1)) &&
    (bif a.Kind == 1 then !clkAt ps a.From && ((a.To == (ps.length : Int) - 1) && (inI a.Sense 1 3 && (tablesB a.Delay true && tablesB a.Slew true)))
     else (bif (a.Kind == 2) || (a.Kind == 3) then clkAt ps a.From && ((a.To == (ps.length : Int) - 1) && ((a.Sense == 0) && (tablesB a.Delay true && tablesB a.Slew true)))
     else (bif (a.Kind == 4) || (a.Kind == 5) then clkAt ps a.From && (decide (a.To < (ps.length : Int) - 1) && (!clkAt ps a.To && ((a.Sense == 0) && (tablesB a.Delay false && ((a.Slew.length : Int) == 0))))) else false)))

theorem qkK {c d : Bool} : (bif c then some c else some d) = some (c || d) := by cases c <;> rfl
theorem qm2 {c d : Bool} : (bif c then some true else some d) = some (c || d) := by cases c <;> rfl

theorem qnH {n : Nat} {k : Int} : qgr n k = some ((k == 4) || (k == 5)) := by simp only [qgr, qm2]
theorem qp6 {c : qJ} {a : qag} (h : okL qji c.Pins) (ha : qjP a) (hm : 2 ≤ c.Pins.length) : Ev (fun n => qe0 n c a) (arcI c.Pins a) := by
  have hl := h.len
  have e1 : W64 ((c.Pins.length : Int) - 1) = (c.Pins.length : Int) - 1 := qcZ (by omega)
  have e2 : W64 ((c.Pins.length : Int) - 1 - 1) = (c.Pins.length : Int) - 2 := by rw [qf5 (by omega) (by omega)]; omega
  simp only [qe0, qnH, Option.bind_some, qei, qc1, qbN, e1, e2, qdp, qkK, bne]
  unfold arcI
  refine Ev.iff (fun _ => Ev.last ?_) (fun _ => Ev.guardB ?_ (fun hb => ?_))
  · exact Ev.andP fun _ => Ev.andP fun _ => Ev.and (qiy ha.Delay) fun _ => Ev.bind (qp5 hl) (Ev.andP fun _ => Ev.andP fun _ => Ev.andP fun _ => .done)
  · refine Ev.or (qiy ha.Delay) fun _ => Ev.or (qiy ha.Slew) fun _ => ?_
    simp only [qbg]
    exact Ev.orBP fun _ => .done
  · have hf : 0 ≤ a.From ∧ a.From ≤ (c.Pins.length : Int) - 2 := by
      simp only [Bool.and_eq_true, qdC] at hb
      exact hb.2.2.2
    simp only [qg9 hf.1 (show a.From < (c.Pins.length : Int) by omega), Option.bind_some]
    exact Ev.iff (fun _ => Ev.andP fun _ => .done) (fun _ => Ev.iff (fun _ => Ev.andP fun _ => .done) (fun _ => .done))

theorem qo1 {c : qJ} {a : qag} (h : okL qji c.Pins) (ha : qjP a) (hm : 2 ≤ c.Pins.length) : Ev (fun n => qhg n c a) (arcS c.Pins a) := by
  have hl := h.len
  have e1 : W64 ((c.Pins.length : Int) - 1) = (c.Pins.length : Int) - 1 := qcZ (by omega)
  have e2 : W64 ((c.Pins.length : Int) - 1 - 1) = (c.Pins.length : Int) - 2 := by rw [qf5 (by omega) (by omega)]; omega
  simp only [qhg, Option.bind_some, e1, e2, qdX, qkK]
  unfold arcS
  refine Ev.guardB ?_ (fun hb => ?_)
  · simp only [qbg]
    exact Ev.orBP fun _ => .done
  · have hf : (0 ≤ a.From ∧ a.From ≤ (c.Pins.length : Int) - 2) ∧ (0 ≤ a.To ∧ a.To ≤ (c.Pins.length : Int) - 1) := by
      simp only [Bool.and_eq_true, qdC] at hb
      exact hb
    simp only [qg9 hf.1.1 (show a.From < (c.Pins.length : Int) by omega), qg9 hf.2.1 (show a.To < (c.Pins.length : Int) by omega), Option.bind_some]
    refine Ev.iff (fun _ => ?_) (fun _ => Ev.iff (fun _ => ?_) (fun _ => Ev.iff (fun _ => ?_) (fun _ => .done)))
    · exact Ev.andP fun _ => Ev.andP fun _ => Ev.andP fun _ => Ev.and (qgR ha.Delay) fun _ => Ev.last (qgR ha.Slew)
    · exact Ev.andP fun _ => Ev.andP fun _ => Ev.andP fun _ => Ev.and (qgR ha.Delay) fun _ => Ev.last (qgR ha.Slew)
    · exact Ev.andP fun _ => Ev.andP fun _ => Ev.andP fun _ => Ev.andP fun _ => Ev.and (qgR ha.Delay) fun _ => .done

/-- The place of the clock, where there is one at most. -/
theorem qkt {ps : List qas} (h1 : clkN ps ps.length ≤ 1) {x : Int} (hx : 0 ≤ x) : clkIx ps = x ↔ x < ps.length ∧ clkAt ps x = true := by
  unfold clkIx ixL
  cases hf : ps.findIdx? (fun p => p.Clock) with
  | some j =>
    obtain ⟨hj, hp, _⟩ := List.findIdx?_eq_some_iff_getElem.1 hf
    have hpj : (gt ps j).Clock = true := by rw [qiV hj]; exact hp
    constructor
    · intro e
      have e : (j : Int) = x := e
      subst e
      exact ⟨by omega, by unfold clkAt; rw [Int.toNat_natCast]; exact hpj⟩
    · rintro ⟨hl, hc⟩
      have := qpc h1 hj (show x.toNat < ps.length by omega) hpj hc
      show (j : Int) = x
      omega
  | none =>
    have hn := List.findIdx?_eq_none_iff.1 hf
    constructor
    · intro e
      have e : (-1 : Int) = x := e
      omega
    · rintro ⟨hl, hc⟩
      have hxl : x.toNat < ps.length := by omega
      unfold clkAt at hc
      rw [qiV hxl] at hc
      have := hn _ (List.getElem_mem hxl)
      rw [hc] at this
      exact absurd this (by decide)

theorem qhV {ps : List qas} (h : pinsB ps = true) : (2 ≤ ps.length ∧ ps.length ≤ 5) ∧ clkAt ps ((ps.length : Int) - 1) = false := by
  unfold pinsB lenB at h
  simp only [Bool.and_eq_true, decide_eq_true_eq] at h
  refine ⟨h.2.1, ?_⟩
  have h1 := qbh.1 h.1 (ps.length - 1) (by omega)
  unfold pinB at h1
  rw [show decide (ps.length - 1 + 1 = ps.length) = true by simp; omega] at h1
  simp only [cond_true, Bool.and_eq_true, Bool.not_eq_true'] at h1
  unfold clkAt
  rw [show ((ps.length : Int) - 1).toNat = ps.length - 1 by omega]
  exact h1.2.2

theorem qq1 {ps : List qas} {a : qag} (h : pinsB ps = true) (h1 : clkN ps ps.length ≤ 1) : arcI ps a = arcS ps a := by
  obtain ⟨⟨hm, hm5⟩, hlast⟩ := qhV h
  rw [Bool.eq_iff_iff]
  unfold arcI arcS
  cases h45 : ((a.Kind == 4) || (a.Kind == 5)) with
  | true =>
    have k1 : (a.Kind == 1) = false := by simp at h45 ⊢; omega
    have k23 : ((a.Kind == 2) || (a.Kind == 3)) = false := by simp at h45 ⊢; omega
    rw [k1, k23]
    simp only [cond_true, cond_false, Bool.and_eq_true, qdC, decide_eq_true_eq, beq_iff_eq, Bool.not_eq_true', beq_eq_false_iff_ne, ne_eq]
    constructor
    · rintro ⟨hs, hsl, hd, hf, hf0, ht, hne⟩
      obtain ⟨hl, hc⟩ := (qkt h1 hf0).1 hf.symm
      have hfl : a.From ≠ (ps.length : Int) - 1 := by intro e; rw [e, hlast] at hc; cases hc
      refine ⟨⟨⟨hf0, by omega⟩, ⟨ht.1, by omega⟩⟩, hc, by omega, ?_, hs, hd, hsl⟩
      cases hct : clkAt ps a.To with
      | false => rfl
      | true =>
        have := (qkt h1 ht.1).2 ⟨by omega, hct⟩
        omega
    · rintro ⟨⟨hf, ht⟩, hc, hlt, hct, hs, hd, hsl⟩
      have := (qkt h1 hf.1).2 ⟨by omega, hc⟩
      refine ⟨hs, hsl, hd, this.symm, hf.1, ⟨ht.1, by omega⟩, ?_⟩
      intro e
      rw [e, hc] at hct
      cases hct
  | false =>
    simp only [cond_false, Bool.and_eq_true, qdC, beq_iff_eq]
    cases (a.Kind == 1)
    · cases ((a.Kind == 2) || (a.Kind == 3))
      · simp
      · simp only [cond_true, cond_false, Bool.and_eq_true, beq_iff_eq]
        constructor
        · rintro ⟨⟨h1, h2, h3, h4⟩, h5, h6⟩
          exact ⟨⟨h4, by omega⟩, h5, h3, h6, h1, h2⟩
        · rintro ⟨⟨h4, h7⟩, h5, h3, h6, h1, h2⟩
          exact ⟨⟨h1, h2, h3, h4⟩, h5, h6⟩
    · simp only [cond_true, Bool.and_eq_true, qdC, Bool.not_eq_true', beq_iff_eq]
      constructor
      · rintro ⟨⟨h1, h2, h3, h4⟩, h5, h6⟩
        exact ⟨⟨h4, by omega⟩, h5, h3, h6, h1, h2⟩
      · rintro ⟨⟨h4, h7⟩, h5, h3, h6, h1, h2⟩
        exact ⟨⟨h1, h2, h3, h4⟩, h5, h6⟩

theorem qoU {ps : List qas} {a : qag} (h : arcS ps a = true) : 1 ≤ a.Kind ∧ a.Kind ≤ 5 := by
  unfold arcS at h
  rw [Bool.and_eq_true] at h
  have h := h.2
  cases h1 : (a.Kind == 1)
  · cases h2 : ((a.Kind == 2) || (a.Kind == 3))
    · cases h4 : ((a.Kind == 4) || (a.Kind == 5))
      · rw [h1, h2, h4] at h; cases h
      · simp at h4; omega
    · simp at h2; omega
  · simp at h1; omega

def sameArc (x y : qag) : Bool := (x.Kind == y.Kind) && ((x.From == y.From) && (x.To == y.To))
def newArc (ar : List qag) (j : Nat) : Bool := allN (fun i => !sameArc (gt ar i) (gt ar j)) j

theorem qnA {c : qJ} (h : okL qji c.Pins) (ha : okL qjP c.Arcs) (hm : 2 ≤ c.Pins.length) : Ev (fun n => qeg n c) (allN (fun j => arcI c.Pins (gt c.Arcs j) && newArc c.Arcs j) c.Arcs.length && decide (c.Arcs.length ≤ 8)) := by
  have hl := ha.len
  have h1 : ∀ (ar : List qag) (y : qag), ar.length ≤ 1048576 → Ev (fun n => qad n ar y) (ar.any fun x => sameArc x y) := by
    intro ar y hl
    unfold qad
    refine Ev.bind (b := ixL (fun x => sameArc x y) ar) (qe3 (fin := (ar.length : Int)) (Lf := qM ar y) (pf := fun n x => qdA n x y) (fun x _ => ?_)
      (fun n => by simp only [qM, qv (Nat.le_refl _), cond_false])
      (fun n j x hx => by
        have hj := (List.getElem?_eq_some_iff.1 hx).1
        simp only [qM, qu hj, cond_true, qaH hx, Option.bind_some, qr (show j < 9223372036854775807 by omega)])
      (fun n => by unfold qaF; congr 1; funext o; cases o <;> rfl)) (Ev.now (by rw [qhO]))
    unfold qdA sameArc
    exact Ev.andP fun _ => Ev.andP fun _ => .done
  have hL : Ev (fun n => qbs c n 0) (bif allN (fun j => arcI c.Pins (gt c.Arcs j) && newArc c.Arcs j) c.Arcs.length then .nxt (c.Arcs.length : Int) else .ret false) := by
    refine qdP ?_ (fun j hj X hX => Ev.succ ?_)
    · exact Ev.succ (by simp only [qbs, qv (Nat.le_refl _), cond_false]; exact .done)
    · simp only [qbs, qu hj, cond_true, qat hj, Option.bind_some, qoF (Nat.le_of_lt hj), qr (show j < 9223372036854775807 by omega)]
      refine Ev.chk (qp6 h (qh7 ha hj) hm) fun _ => Ev.chkT1 ?_ (fun _ => hX)
      refine (h1 _ _ (by simp; omega)).cast ?_
      rw [qpN (Nat.le_of_lt hj)]; rfl
  unfold qeg
  refine Ev.bind hL ?_
  cases allN (fun j => arcI c.Pins (gt c.Arcs j) && newArc c.Arcs j) c.Arcs.length
  · exact .done
  · refine Ev.now ?_
    show some (decide ((c.Arcs.length : Int) ≤ ((8 : Nat) : Int))) = some (true && decide (c.Arcs.length ≤ 8))
    rw [qiG, Bool.true_and]

def hasB (ar : List qag) (k : Int) : Bool := ar.any fun a => a.Kind == k
theorem qks {c : qJ} {k : Int} (hl : c.Arcs.length ≤ 1048576) : Ev (fun n => qcv n c k) (hasB c.Arcs k) := by
  unfold qcv qaL
  exact Ev.last (Ev.bind (b := ixL (fun x => x.Kind == k) c.Arcs) (qe3 (fin := (c.Arcs.length : Int)) (Lf := qQ c.Arcs k) (pf := fun n x => qf1 n x k) (fun x _ => .done)
      (fun n => by simp only [qQ, qv (Nat.le_refl _), cond_false])
      (fun n j x hx => by
        have hj := (List.getElem?_eq_some_iff.1 hx).1
        simp only [qQ, qu hj, cond_true, qaH hx, Option.bind_some, qr (show j < 9223372036854775807 by omega)])
      (fun n => by unfold qaY; congr 1; funext o; cases o <;> rfl)) (Ev.now (by rw [qhO]; rfl)))

def kindN (ar : List qag) (k : Nat) (j : Nat) : Nat := cntP (fun i => (gt ar i).Kind == (k : Int)) j
theorem qmj {ar : List qag} {k : Nat} : decide (((kindN ar k ar.length : Nat) : Int) > 0) = hasB ar k := by
  rw [show decide (((kindN ar k ar.length : Nat) : Int) > 0) = decide (0 < kindN ar k ar.length) by simp]
  unfold kindN hasB
  rw [qpX, qpJ]
theorem qoh {ar : List qag} {k : Nat} : (((kindN ar k ar.length : Nat) : Int) == 0) = !hasB ar k := by
  rw [← qmj, Bool.eq_iff_iff]; simp

theorem qnu {c : qJ} (ha : okL qjP c.Arcs) (hk : ∀ j, j < c.Arcs.length → 1 ≤ (gt c.Arcs j).Kind ∧ (gt c.Arcs j).Kind ≤ 5) : Ev (fun n => qfR n c) (vecC (fun k => kindN c.Arcs k c.Arcs.length) 6) := by
  have hl := ha.len
  have hL : Ev (fun n => qbW c n (vecC (fun _ => 0) 6) 0) (vecC (fun k => kindN c.Arcs k c.Arcs.length) 6, (c.Arcs.length : Int)) := by
    refine loopF (Lf := qbW c) (S := fun j => vecC (fun k => kindN c.Arcs k j) 6) (len := c.Arcs.length) (fun n => ?_) (fun j hj X hX => ?_)
    · simp only [qbW, qv (Nat.le_refl _), cond_false]
    · obtain ⟨k1, k5⟩ := hk j hj
      have ek : (gt c.Arcs j).Kind = (((gt c.Arcs j).Kind.toNat : Nat) : Int) := qnC (by omega)
      have hc : kindN c.Arcs (gt c.Arcs j).Kind.toNat j ≤ j := qfd
      simp only [qbW, qu hj, cond_true, qat hj, Option.bind_some, qr (show j < 9223372036854775807 by omega)]
      rw [ek, qhX (show (gt c.Arcs j).Kind.toNat < 6 by omega)]
      simp only [Option.bind_some]
      rw [qmr (c := fun k => kindN c.Arcs k j) (by show kindN c.Arcs _ j < _; omega)]
      have : vecC (fun i => kindN c.Arcs i j + (bif decide ((gt c.Arcs j).Kind.toNat = i) then 1 else 0)) 6 = vecC (fun k => kindN c.Arcs k (j + 1)) 6 := by
        refine qhQ (fun k _ => ?_)
        show _ = kindN c.Arcs k j + (bif (gt c.Arcs j).Kind == (k : Int) then 1 else 0)
        congr 2
        rw [Bool.eq_iff_iff]; simp; omega
      rw [this]
      exact hX
  unfold qfR
  rw [show mkS 6 (0 : Int) = some (vecC (fun _ => 0) 6) from qjp (m := 6) (by omega)]
  simp only [Option.bind_some]
  exact Ev.bind hL .done

/-! ### Cells -/

def kindB (c : qJ) : Bool :=
  bif c.Kind == 1 then (((clkN c.Pins c.Pins.length : Nat) : Int) == 0) && (((c.Truth.length : Int) == ((2 ^ (c.Pins.length - 1) : Nat) : Int)) && (c.Truth.all fun x => inI x 0 1))
  else bif c.Kind == 2 then (((clkN c.Pins c.Pins.length : Nat) : Int) == 1) && (((c.Truth.length : Int) == 0) && (!hasB c.Arcs 1 && !(hasB c.Arcs 2 == hasB c.Arcs 3)))
  else bif c.Kind == 3 then (((clkN c.Pins c.Pins.length : Nat) : Int) == 1) && (((c.Truth.length : Int) == 0) && (hasB c.Arcs 1 && (hasB c.Arcs 2 && !hasB c.Arcs 3)))
  else false

theorem qoY {c : qJ} (h : kindB c = true) : clkN c.Pins c.Pins.length ≤ 1 := by
  unfold kindB at h
  cases h1 : (c.Kind == 1)
  · cases h2 : (c.Kind == 2)
    · cases h3 : (c.Kind == 3)
      · rw [h1, h2, h3] at h; cases h
      · rw [h1, h2, h3] at h
        simp only [cond_true, cond_false, Bool.and_eq_true, beq_iff_eq] at h
        omega
    · rw [h1, h2] at h
      simp only [cond_true, cond_false, Bool.and_eq_true, beq_iff_eq] at h
      omega
  · rw [h1] at h
    simp only [cond_true, Bool.and_eq_true, beq_iff_eq] at h
    omega

theorem qm5 {m : Nat} (h1 : 2 ≤ m) (h2 : m ≤ 5) : shlS 1 (W64 ((m : Int) - 1)) = some ((2 ^ (m - 1) : Nat) : Int) ∧ shlS 1 (IntKind.wrap .u64 (W64 ((m : Int) - 1))) = some ((2 ^ (m - 1) : Nat) : Int) := by
  have : m = 2 ∨ m = 3 ∨ m = 4 ∨ m = 5 := by omega
  rcases this with rfl | rfl | rfl | rfl <;> exact ⟨by decide, by decide⟩

theorem qna {c : qJ} (hc : qjt c) (hm : 2 ≤ c.Pins.length) (hm5 : c.Pins.length ≤ 5) : Ev (fun n => qdL n c) (kindB c) := by
  have hl := hc.Pins.len
  have hL : Ev (fun n => qaM c n 0 0) (((clkN c.Pins c.Pins.length : Nat) : Int), (c.Pins.length : Int)) := by
    refine loopF (Lf := qaM c) (S := fun j => ((clkN c.Pins j : Nat) : Int)) (len := c.Pins.length) (fun n => ?_) (fun j hj X hX => ?_)
    · simp only [qaM, qv (Nat.le_refl _), cond_false]
    · have hn : clkN c.Pins j ≤ j := qfd
      simp only [qaM, qu hj, cond_true, qat hj, Option.bind_some, qr (show j < 9223372036854775807 by omega), qr (show clkN c.Pins j < 9223372036854775807 by omega)]
      have hck : clkN c.Pins (j + 1) = clkN c.Pins j + (bif (gt c.Pins j).Clock then 1 else 0) := rfl
      rw [hck] at hX
      cases hc : (gt c.Pins j).Clock
      · rw [hc] at hX; exact Ev.ff rfl hX
      · rw [hc] at hX; exact Ev.tt rfl hX
  unfold qdL kindB
  refine Ev.bind hL ?_
  simp only [qc1, qbN, Option.bind_some, (qm5 hm hm5).1]
  have hal := hc.Arcs.len
  refine Ev.iff (fun _ => ?_) (fun _ => Ev.iff (fun _ => ?_) (fun _ => Ev.iff (fun _ => ?_) (fun _ => .done)))
  · exact Ev.andP fun _ => Ev.andP fun _ => Ev.last (qeT hc.Truth.len)
  · exact Ev.andP fun _ => Ev.andP fun _ => Ev.bind (qks hal) (Ev.andP fun _ => Ev.bind (qks hal) (Ev.bind (qks hal) .done))
  · exact Ev.andP fun _ => Ev.andP fun _ => Ev.and (qks hal) fun _ => Ev.and (qks hal) fun _ => Ev.bind (qks hal) .done

def cellB (c : qJ) : Bool :=
  nameB c.Name && (pinsB c.Pins && ((allN (fun j => arcI c.Pins (gt c.Arcs j) && newArc c.Arcs j) c.Arcs.length && decide (c.Arcs.length ≤ 8)) && (inI c.Leak 0 100000 && (inI c.Energy 0 100000 && kindB c))))

theorem qot {c : qJ} (hc : qjt c) : Ev (fun n => qhu n c) (cellB c) := by
  simp only [qhu, qmg hc.Name, qdp, Option.bind_some]
  unfold cellB
  refine Ev.andP fun _ => Ev.and (qnT hc.Pins) fun hp => ?_
  obtain ⟨⟨hm, hm5⟩, _⟩ := qhV hp
  exact Ev.and (qnA hc.Pins hc.Arcs hm) fun _ => Ev.andP fun _ => Ev.andP fun _ => Ev.last (qna hc hm hm5)

theorem qnN {c : qJ} (hc : qjt c) : Ev (fun n => qhk n c) (cellB c) := by
  have hal := hc.Arcs.len
  have htl := hc.Truth.len
  have e : cellB c = ((pinsB c.Pins && (nameB c.Name && (decide (c.Arcs.length ≤ 8) && (inI c.Leak 0 100000 && inI c.Energy 0 100000)))) && (allN (fun j => arcS c.Pins (gt c.Arcs j) && newArc c.Arcs j) c.Arcs.length && kindB c)) := by
    unfold cellB
    cases hk : kindB c
    · simp
    · cases hp : pinsB c.Pins
      · simp
      · rw [qf3 (fun j _ => by rw [qq1 hp (qoY hk)])]
        cases nameB c.Name <;> cases allN (fun j => arcS c.Pins (gt c.Arcs j) && newArc c.Arcs j) c.Arcs.length <;> cases decide (c.Arcs.length ≤ 8) <;> cases inI c.Leak 0 100000 <;> cases inI c.Energy 0 100000 <;> rfl
  rw [e]
  unfold qhk
  refine Ev.bind (qn9 hc.Pins) ?_
  cases hp : pinsB c.Pins
  · exact .done
  · obtain ⟨⟨hm, hm5⟩, _⟩ := qhV hp
    simp only [cond_true, Bool.true_and, Bool.not_true, cond_false]
    refine Ev.guardB ?_ (fun _ => ?_)
    · simp only [qdX, Option.bind_some, qbg]
      refine Ev.orB (qjW hc.Name) fun _ => ?_
      rw [show decide ((c.Arcs.length : Int) > 8) = !decide (c.Arcs.length ≤ 8) by rw [Bool.eq_iff_iff]; simp; omega, qbg]
      exact Ev.orBP fun _ => Ev.orBP fun _ => .done
    · have hL2 : ∀ j, j < c.Arcs.length → Ev (fun n => qce c (j : Int) (gt c.Arcs j) n 0) (bif newArc c.Arcs j then .nxt (j : Int) else .ret false) := by
        intro j hj
        refine qdP ?_ (fun i hi X hX => Ev.succ ?_)
        · exact Ev.succ (by simp only [qce, qv (Nat.le_refl _), cond_false]; exact .done)
        · simp only [qce, qu hi, cond_true, qat (show i < c.Arcs.length by omega), Option.bind_some, qr (show i < 9223372036854775807 by omega)]
          unfold sameArc
          cases ((gt c.Arcs i).Kind == (gt c.Arcs j).Kind)
          · exact hX
          · cases ((gt c.Arcs i).From == (gt c.Arcs j).From)
            · exact hX
            · cases ((gt c.Arcs i).To == (gt c.Arcs j).To)
              · exact hX
              · exact .done
      have hL1 : Ev (fun n => qdd c n 0) (bif allN (fun j => arcS c.Pins (gt c.Arcs j) && newArc c.Arcs j) c.Arcs.length then .nxt (c.Arcs.length : Int) else .ret false) := by
        refine qdP ?_ (fun j hj X hX => Ev.succ ?_)
        · exact Ev.succ (by simp only [qdd, qv (Nat.le_refl _), cond_false]; exact .done)
        · simp only [qdd, qu hj, cond_true, qat hj, Option.bind_some, qr (show j < 9223372036854775807 by omega)]
          refine Ev.chk (qo1 hc.Pins (qh7 hc.Arcs hj) hm) fun _ => Ev.bind (hL2 j hj) ?_
          cases newArc c.Arcs j
          · exact .done
          · exact hX
      have hL3 : Ev (fun n => qdf c n 0) (bif (c.Truth.all fun x => inI x 0 1) then .nxt (c.Truth.length : Int) else .ret false) :=
        qkh (fun n => by simp only [qdf, qv (Nat.le_refl _), cond_false]) (fun j hj X hX => by
          simp only [qdf, qu hj, cond_true, qgV hj, Option.bind_some, qdX, qr (show j < 9223372036854775807 by omega), qbg]
          exact Ev.okP1 fun _ => hX)
      refine Ev.bind hL1 ?_
      cases hA : allN (fun j => arcS c.Pins (gt c.Arcs j) && newArc c.Arcs j) c.Arcs.length
      · exact .done
      · have hk : ∀ j, j < c.Arcs.length → 1 ≤ (gt c.Arcs j).Kind ∧ (gt c.Arcs j).Kind ≤ 5 := fun j hj => by
          have := qbh.1 hA j hj
          rw [Bool.and_eq_true] at this
          exact qoU this.1
        simp only [cond_true, Bool.true_and]
        refine Ev.bind (qnu hc.Arcs hk) ?_
        simp only [(qm5 hm hm5).2, Option.bind_some,
          show idx (vecC (fun k => kindN c.Arcs k c.Arcs.length) 6) (1 : Int) = some ((kindN c.Arcs 1 c.Arcs.length : Nat) : Int) from qhX (k := 1) (by omega),
          show idx (vecC (fun k => kindN c.Arcs k c.Arcs.length) 6) (2 : Int) = some ((kindN c.Arcs 2 c.Arcs.length : Nat) : Int) from qhX (k := 2) (by omega),
          show idx (vecC (fun k => kindN c.Arcs k c.Arcs.length) 6) (3 : Int) = some ((kindN c.Arcs 3 c.Arcs.length : Nat) : Int) from qhX (k := 3) (by omega), qmj, qoh]
        unfold kindB
        refine Ev.iff (fun _ => ?_) (fun _ => Ev.iff (fun _ => ?_) (fun _ => Ev.iff (fun _ => ?_) (fun _ => .done)))
        · refine Ev.bind hL3 ?_
          cases (c.Truth.all fun x => inI x 0 1)
          · exact Ev.now (by simp)
          · exact (Ev.andP (fun _ => .done)).cast (by rw [Bool.and_true])
        · refine (Ev.andP fun _ => Ev.andP fun _ => Ev.andP fun _ => .done).cast ?_
          cases (((clkN c.Pins c.Pins.length : Nat) : Int) == 1) <;> cases ((c.Truth.length : Int) == 0) <;> cases hasB c.Arcs ((1 : Nat) : Int) <;> cases hasB c.Arcs ((2 : Nat) : Int) <;> cases hasB c.Arcs ((3 : Nat) : Int) <;> rfl
        · refine (Ev.andP fun _ => Ev.andP fun _ => Ev.andP fun _ => Ev.andP fun _ => .done).cast ?_
          cases (((clkN c.Pins c.Pins.length : Nat) : Int) == 1) <;> cases ((c.Truth.length : Int) == 0) <;> cases hasB c.Arcs ((1 : Nat) : Int) <;> cases hasB c.Arcs ((2 : Nat) : Int) <;> cases hasB c.Arcs ((3 : Nat) : Int) <;> rfl

/-! ### Libraries -/

def libB (l : qA) : Bool := l.Cells.all cellB && (decide (l.Cells.length ≤ 8) && namesB (l.Cells.map qJ.Name))

theorem qmW {l : qA} (h : qf6 l) : Ev (fun n => qfp n l) (libB l) := by
  have hl := h.Cells.len
  have hL : Ev (fun n => qbJ l n ([] : List ByteArray) 0) (bif allN (fun j => cellB (gt l.Cells j)) l.Cells.length then .nxt (l.Cells.map qJ.Name, (l.Cells.length : Int)) else .ret false) := by
    refine loopN (Lf := qbJ l) (S := fun j => (l.Cells.take j).map qJ.Name) (fun j => cellB (gt l.Cells j)) (fun n => ?_) (fun j hj hp X hX => ?_)
    · simp only [qbJ, qv (Nat.le_refl _), cond_false, List.take_length]
    · simp only [qbJ, qu hj, cond_true, qat hj, Option.bind_some, qiu hj hl, qfv (g := qJ.Name) hj, qr (show j < 9223372036854775807 by omega)]
      exact Ev.chk1 (qot (qh7 h.Cells hj)) hX
  unfold qfp libB
  rw [qgY]
  refine Ev.bind hL ?_
  cases allN (fun j => cellB (gt l.Cells j)) l.Cells.length
  · exact .done
  · simp only [cond_true, Bool.true_and, show decide ((l.Cells.length : Int) ≤ 8) = decide (l.Cells.length ≤ 8) from qiG (k := 8)]
    exact Ev.andP fun _ => Ev.last (qhr (qjo h.Cells (fun x hx => hx.Name)))
end Go.Fw


namespace Go.Fw
open Go
set_option maxRecDepth 100000

theorem qnD {c : qJ} (h : cellB c = true) : nameB c.Name = true := by
  unfold cellB at h; rw [Bool.and_eq_true] at h; exact h.1
theorem qlG {c : qJ} (h : cellB c = true) : pinsB c.Pins = true := by
  unfold cellB at h; simp only [Bool.and_eq_true] at h; exact h.2.1

theorem ql5 {l : qA} (h : qf6 l) : Ev (fun n => qfn n l) (libB l) := by
  have hl := h.Cells.len
  have hL2 : ∀ j, j < l.Cells.length → Ev (fun n => qb8 l (j : Int) n 0) (bif allN (neB (l.Cells.map qJ.Name) j) j then .nxt (j : Int) else .ret false) := by
    intro j hj
    refine qdP ?_ (fun i hi X hX => Ev.succ ?_)
    · exact Ev.succ (by simp only [qb8, qv (Nat.le_refl _), cond_false]; exact .done)
    · simp only [qb8, qu hi, cond_true, qat (show i < l.Cells.length by omega), qat hj, Option.bind_some, qfW, qr (show i < 9223372036854775807 by omega)]
      unfold neB
      rw [qhJ (g := qJ.Name) (show i < l.Cells.length by omega), qhJ (g := qJ.Name) hj]
      exact Ev.chkP1 (fun _ => hX)
  have hL1 : Ev (fun n => qb9 l n 0) (bif allN (fun j => cellB (gt l.Cells j) && allN (neB (l.Cells.map qJ.Name) j) j) l.Cells.length then .nxt (l.Cells.length : Int) else .ret false) := by
    refine qdP ?_ (fun j hj X hX => Ev.succ ?_)
    · exact Ev.succ (by simp only [qb9, qv (Nat.le_refl _), cond_false]; exact .done)
    · simp only [qb9, qu hj, cond_true, qat hj, Option.bind_some, qr (show j < 9223372036854775807 by omega)]
      refine Ev.chk (qnN (qh7 h.Cells hj)) fun _ => Ev.bind (hL2 j hj) ?_
      cases allN (neB (l.Cells.map qJ.Name) j) j
      · exact .done
      · exact hX
  have e : libB l = (allN (fun j => cellB (gt l.Cells j) && allN (neB (l.Cells.map qJ.Name) j) j) l.Cells.length && decide (l.Cells.length ≤ 8)) := by
    unfold libB namesB
    rw [qgY, List.length_map, Bool.and_comm (decide (l.Cells.length ≤ 8)), ← Bool.and_assoc, ← qij]
    congr 1
    refine qf3 (fun j hj => ?_)
    rw [qhJ (g := qJ.Name) hj]
    cases hc : cellB (gt l.Cells j)
    · rfl
    · rw [qnD hc]; rfl
  rw [e]
  unfold qfn
  refine Ev.bind hL1 ?_
  cases allN (fun j => cellB (gt l.Cells j) && allN (neB (l.Cells.map qJ.Name) j) j) l.Cells.length
  · exact .done
  · refine Ev.now ?_
    show some (decide ((l.Cells.length : Int) ≤ ((8 : Nat) : Int))) = some (true && decide (l.Cells.length ≤ 8))
    rw [qiG, Bool.true_and]

theorem qih {c c' : Nat → Nat} {m : Nat} {x : Int} (h0 : 0 ≤ x) (h1 : x < m) (hc : c x.toNat < 9223372036854775807) (he : ∀ k, k < m → c' k = c k + (bif x == (k : Int) then 1 else 0)) :
    idx (vecC c m) x = some (c x.toNat : Int) ∧ setS (vecC c m) x (W64 ((c x.toNat : Int) + 1)) = vecC c' m := by
  have ex : x = (x.toNat : Int) := qnC h0
  have e1 := qhX (c := c) (m := m) (k := x.toNat) (by omega)
  have e2 := qmr (c := c) (m := m) (k := x.toNat) hc
  rw [← ex] at e1 e2
  refine ⟨e1, e2.trans (qhQ (fun k hk => ?_))⟩
  rw [he k hk]
  congr 2
  rw [Bool.eq_iff_iff]; simp; omega

/-! ### Parts of a design -/

def netB (d : qk) (x : Int) : Bool := inI x 0 ((d.Nets.length : Int) - 1)
theorem qnh {n : Nat} {d : qk} {x : Int} (hl : d.Nets.length ≤ 1048576) : qcz n d x = some (netB d x) := by
  simp only [qcz, qeR, Option.bind_some, qdp, qcZ (show d.Nets.length ≤ 9223372036854775807 by omega)]; rfl
theorem qmi {n : Nat} {d : qk} {x : Int} (hl : d.Nets.length ≤ 1048576) : qan n x 0 (W64 ((d.Nets.length : Int) - 1)) = some (netB d x) := by
  rw [qdX, qcZ (show d.Nets.length ≤ 9223372036854775807 by omega)]; rfl

def hasNamesB (d : qk) : Bool := (decide (d.Instances.length ≤ 14) && (decide (d.Nets.length ≤ 30) && decide (d.Ports.length ≤ 8))) && (namesB (d.Instances.map qq.Name) && (namesB d.Nets && namesB (d.Ports.map qaj.Name)))

theorem qnb {d : qk} (h : qhL d) : Ev (fun n => qdc n d) (hasNamesB d) := by
  have hli := h.Instances.len
  have hlp := h.Ports.len
  have hL1 : Ev (fun n => qaK d n ([] : List ByteArray) 0) (d.Instances.map qq.Name, (d.Instances.length : Int)) := by
    refine loopF (Lf := qaK d) (S := fun j => (d.Instances.take j).map qq.Name) (len := d.Instances.length) (fun n => ?_) (fun j hj X hX => ?_)
    · simp only [qaK, qv (Nat.le_refl _), cond_false, List.take_length]
    · simpa only [qaK, qu hj, cond_true, qat hj, Option.bind_some, qiu hj hli, qfv (g := qq.Name) hj, qr (show j < 9223372036854775807 by omega)] using hX
  have hL2 : Ev (fun n => qaI d n ([] : List ByteArray) 0) (d.Ports.map qaj.Name, (d.Ports.length : Int)) := by
    refine loopF (Lf := qaI d) (S := fun j => (d.Ports.take j).map qaj.Name) (len := d.Ports.length) (fun n => ?_) (fun j hj X hX => ?_)
    · simp only [qaI, qv (Nat.le_refl _), cond_false, List.take_length]
    · simpa only [qaI, qu hj, cond_true, qat hj, Option.bind_some, qiu hj hlp, qfv (g := qaj.Name) hj, qr (show j < 9223372036854775807 by omega)] using hX
  unfold qdc hasNamesB
  refine Ev.bind hL1 (Ev.bind hL2 ?_)
  simp only [List.length_map]
  rw [show decide ((d.Instances.length : Int) ≤ 14) = decide (d.Instances.length ≤ 14) from qiG (k := 14), show decide ((d.Nets.length : Int) ≤ 30) = decide (d.Nets.length ≤ 30) from qiG (k := 30), show decide ((d.Ports.length : Int) ≤ 8) = decide (d.Ports.length ≤ 8) from qiG (k := 8)]
  rw [Bool.and_assoc, Bool.and_assoc]
  exact Ev.andP fun _ => Ev.andP fun _ => Ev.andP fun _ => Ev.and (qhr (qjo h.Instances (fun x hx => hx.Name))) fun _ => Ev.and (qhr h.Nets) fun _ => Ev.last (qhr (qjo h.Ports (fun x hx => hx.Name)))

def instB (l : qA) (d : qk) (x : qq) : Bool := inI x.Cell 0 ((l.Cells.length : Int) - 1) && (((x.Nets.length : Int) == ((gt l.Cells x.Cell.toNat).Pins.length : Int)) && x.Nets.all (netB d))

theorem qmb {d : qk} {l : qA} {x : qq} (hn : d.Nets.length ≤ 1048576) (hc : l.Cells.length ≤ 1048576) (hx : x.Nets.length ≤ 1048576) : Ev (fun n => qcx n d l x) (instB l d x) := by
  simp only [qcx, qd7, Option.bind_some, qdp, qcZ (show l.Cells.length ≤ 9223372036854775807 by omega)]
  unfold instB
  refine Ev.andP fun hI => ?_
  rw [qdC] at hI
  rw [qg9 hI.1 (by omega)]
  simp only [Option.bind_some]
  refine Ev.andP fun _ => Ev.bind (b := x.Nets.any fun y => !netB d y) ?_ (Ev.now (by rw [qj7]))
  unfold qao
  exact Ev.bind (b := ixL (fun y => !netB d y) x.Nets) (qe3 (fin := (x.Nets.length : Int)) (Lf := qK x.Nets d) (pf := fun n y => qcb n y d) (fun y _ => ⟨0, fun n _ => by simp only [qcb, qnh hn, Option.bind_some]⟩)
      (fun n => by simp only [qK, qv (Nat.le_refl _), cond_false])
      (fun n j y hx => by
        have hj := (List.getElem?_eq_some_iff.1 hx).1
        simp only [qK, qu hj, cond_true, qaH hx, Option.bind_some, qr (show j < 9223372036854775807 by omega)])
      (fun n => by unfold qav; congr 1; funext o; cases o <;> rfl)) (Ev.now (by rw [qhO]))

def portB (d : qk) (p : qaj) : Bool := inI p.Dir 1 2 && netB d p.Net
theorem qqV {x : Int} : inI x 1 2 = ((x == 1) || (x == 2)) := by
  unfold inI; rw [Bool.eq_iff_iff]; simp; omega

/-- The net that an instance drives. -/
def lastN (x : qq) : Int := at0 x.Nets (x.Nets.length - 1)
theorem qnz {x : qq} (h1 : 1 ≤ x.Nets.length) (h2 : x.Nets.length ≤ 1048576) : idx x.Nets (W64 ((x.Nets.length : Int) - 1)) = some (lastN x) := by
  rw [qcZ (by omega), show ((x.Nets.length : Int) - 1) = ((x.Nets.length - 1 : Nat) : Int) by omega, qb5 (by omega)]; rfl
theorem qo3 {d : qk} {x : qq} (h1 : 1 ≤ x.Nets.length) (h : x.Nets.all (netB d) = true) : 0 ≤ lastN x ∧ lastN x < d.Nets.length := by
  rw [qgI (d := 0), qbh] at h
  have := h (x.Nets.length - 1) (by omega)
  unfold netB at this
  rw [qdC] at this
  unfold lastN at0
  omega
theorem qlA {l : qA} {d : qk} {x : qq} (hl : libB l = true) (h : instB l d x = true) : 1 ≤ x.Nets.length ∧ 0 ≤ lastN x ∧ lastN x < d.Nets.length := by
  unfold instB at h
  simp only [Bool.and_eq_true, qdC, beq_iff_eq] at h
  obtain ⟨h1, h2, h3⟩ := h
  unfold libB at hl
  simp only [Bool.and_eq_true] at hl
  have hc := hl.1
  rw [qgY, qbh] at hc
  have := qhV (qlG (hc x.Cell.toNat (by omega)))
  have h4 : 1 ≤ x.Nets.length := by omega
  exact ⟨h4, qo3 h4 h3⟩

def drvI (d : qk) (k j : Nat) : Nat := cntP (fun i => lastN (gt d.Instances i) == (k : Int)) j
def drvP (d : qk) (k j : Nat) : Nat := cntP (fun i => ((gt d.Ports i).Dir == 1) && ((gt d.Ports i).Net == (k : Int))) j
def drvB (d : qk) : Bool := allN (fun k => ((drvI d k d.Instances.length + drvP d k d.Ports.length : Nat) : Int) == 1) d.Nets.length
def designB (l : qA) (d : qk) : Bool := (libB l && hasNamesB d) && (d.Instances.all (instB l d) && (d.Ports.all (portB d) && drvB d))

theorem qmf {d : qk} {k j : Nat} : drvI d k (j + 1) = drvI d k j + (bif lastN (gt d.Instances j) == (k : Int) then 1 else 0) := rfl
theorem qju {d : qk} {k j : Nat} : drvP d k (j + 1) = drvP d k j + (bif ((gt d.Ports j).Dir == 1) && ((gt d.Ports j).Net == (k : Int)) then 1 else 0) := rfl

theorem qnq {l : qA} {d : qk} (h : qf6 l) (hd : qhL d) : Ev (fun n => qfT n l d) (designB l d) := by
  have hli := hd.Instances.len
  have hlp := hd.Ports.len
  have hln := hd.Nets.len
  have hlc := h.Cells.len
  unfold qfT designB
  refine Ev.guardB (Ev.or (qmW h) fun _ => Ev.neg (qnb hd)) fun hb => ?_
  rw [Bool.and_eq_true] at hb
  rw [qjp (m := d.Nets.length) (by omega)]
  simp only [Option.bind_some]
  have hL1 : Ev (fun n => qb0 l d n (vecC (fun _ => 0) d.Nets.length) 0) (bif allN (fun j => instB l d (gt d.Instances j)) d.Instances.length then .nxt (vecC (fun k => drvI d k d.Instances.length) d.Nets.length, (d.Instances.length : Int)) else .ret false) := by
    refine loopN (Lf := qb0 l d) (S := fun j => vecC (fun k => drvI d k j) d.Nets.length) (fun j => instB l d (gt d.Instances j)) (fun n => ?_) (fun j hj hp X hX => ?_)
    · simp only [qb0, qv (Nat.le_refl _), cond_false]
    · simp only [qb0, qu hj, cond_true, qat hj, Option.bind_some, qr (show j < 9223372036854775807 by omega)]
      have hxl := (qh7 hd.Instances hj).Nets.len
      refine Ev.chk1 (qmb hln hlc hxl) fun hi => ?_
      obtain ⟨h1, h2, h3⟩ := qlA hb.1 hi
      have hc : drvI d (lastN (gt d.Instances j)).toNat j ≤ j := qfd
      obtain ⟨e1, e2⟩ := qih (c := fun k => drvI d k j) (c' := fun k => drvI d k (j + 1)) h2 h3 (by show drvI _ _ _ < _; omega) (fun k _ => qmf)
      simp only [qnz h1 hxl, Option.bind_some, e1, e2]
      exact hX hi
  have hL2 : Ev (fun n => qbz d n (vecC (fun k => drvI d k d.Instances.length) d.Nets.length) 0) (bif allN (fun j => portB d (gt d.Ports j)) d.Ports.length then .nxt (vecC (fun k => drvI d k d.Instances.length + drvP d k d.Ports.length) d.Nets.length, (d.Ports.length : Int)) else .ret false) := by
    refine loopN (Lf := qbz d) (S := fun j => vecC (fun k => drvI d k d.Instances.length + drvP d k j) d.Nets.length) (fun j => portB d (gt d.Ports j)) (fun n => ?_) (fun j hj hp X hX => ?_)
    · simp only [qbz, qv (Nat.le_refl _), cond_false]
    · simp only [qbz, qu hj, cond_true, qat hj, Option.bind_some, qnh hln, bne, qr (show j < 9223372036854775807 by omega)]
      refine Ev.chkT1 ?_ fun hi => ?_
      · unfold portB
        rw [qqV]
        cases ((gt d.Ports j).Dir == 1) <;> cases ((gt d.Ports j).Dir == 2) <;> exact .done
      · have hX := hX hi
        unfold portB netB at hi
        simp only [Bool.and_eq_true, qdC] at hi
        have hc1 : drvI d (gt d.Ports j).Net.toNat d.Instances.length ≤ d.Instances.length := qfd
        have hc2 : drvP d (gt d.Ports j).Net.toNat j ≤ j := qfd
        cases h1 : ((gt d.Ports j).Dir == 1)
        · have : vecC (fun k => drvI d k d.Instances.length + drvP d k (j + 1)) d.Nets.length = vecC (fun k => drvI d k d.Instances.length + drvP d k j) d.Nets.length := by
            refine qhQ (fun k _ => ?_)
            rw [qju, h1]; rfl
          rw [this] at hX
          exact hX
        · obtain ⟨e1, e2⟩ := qih (c := fun k => drvI d k d.Instances.length + drvP d k j) (c' := fun k => drvI d k d.Instances.length + drvP d k (j + 1)) (x := (gt d.Ports j).Net) (m := d.Nets.length) hi.2.1 (by omega) (by show drvI _ _ _ + drvP _ _ _ < _; omega) (fun k _ => by rw [qju, h1, Bool.true_and]; omega)
          simp only [cond_true, Option.bind_some, e1, e2]
          exact hX
  rw [qgY, qgY]
  refine Ev.bind hL1 ?_
  cases allN (fun j => instB l d (gt d.Instances j)) d.Instances.length
  · exact .done
  · refine Ev.bind hL2 ?_
    cases allN (fun j => portB d (gt d.Ports j)) d.Ports.length
    · exact .done
    · simp only [cond_true, Bool.true_and]
      unfold qa8
      refine Ev.bind (b := (vecC (fun k => drvI d k d.Instances.length + drvP d k d.Ports.length) d.Nets.length).any fun x => !(x == 1)) (Ev.bind (b := ixL (fun x => !(x == 1)) (vecC (fun k => drvI d k d.Instances.length + drvP d k d.Ports.length) d.Nets.length)) (qe3 (fin := (((vecC (fun k => drvI d k d.Instances.length + drvP d k d.Ports.length) d.Nets.length).length : Nat) : Int)) (Lf := qV (vecC (fun k => drvI d k d.Instances.length + drvP d k d.Ports.length) d.Nets.length)) (pf := fun n y => qfZ n y) (fun y _ => .done)
        (fun n => by simp only [qV, qv (Nat.le_refl _), cond_false])
        (fun n j y hx => by
          have hj := (List.getElem?_eq_some_iff.1 hx).1
          have : j < d.Nets.length := by rw [qiU] at hj; exact hj
          simp only [qV, qu hj, cond_true, qaH hx, Option.bind_some, qr (show j < 9223372036854775807 by omega)])
        (fun n => by unfold qbj; congr 1; funext o; cases o <;> rfl)) (Ev.now (by rw [qhO]))) (Ev.now ?_)
      rw [qj7, qgI (d := 0), qiU]
      unfold drvB
      congr 1
      exact qf3 (fun k hk => by
        have := qno (c := fun k => drvI d k d.Instances.length + drvP d k d.Ports.length) hk
        unfold at0 at this
        rw [this])

theorem qnf {l : qA} {d : qk} (h : qf6 l) (hd : qhL d) : Ev (fun n => qfX n l d) (d.Instances.all (instB l d) && d.Ports.all (portB d)) := by
  have hli := hd.Instances.len
  have hlp := hd.Ports.len
  have hln := hd.Nets.len
  have hlc := h.Cells.len
  have hL2 : ∀ x : qq, x.Nets.length ≤ 1048576 → Ev (fun n => qct d x n 0) (bif x.Nets.all (netB d) then .nxt (x.Nets.length : Int) else .ret false) := fun x hx =>
    qkh (fun n => by simp only [qct, qv (Nat.le_refl _), cond_false]) (fun j hj X hX => by
      simp only [qct, qu hj, cond_true, qgV hj, Option.bind_some, qmi hln, qr (show j < 9223372036854775807 by omega), qbg]
      exact Ev.okP1 fun _ => hX)
  have hL1 : Ev (fun n => qcm l d n 0) (bif allN (fun j => instB l d (gt d.Instances j)) d.Instances.length then .nxt (d.Instances.length : Int) else .ret false) := by
    refine qdP ?_ (fun j hj X hX => Ev.succ ?_)
    · exact Ev.succ (by simp only [qcm, qv (Nat.le_refl _), cond_false]; exact .done)
    · simp only [qcm, qu hj, cond_true, qat hj, Option.bind_some, qdX, qcZ (show l.Cells.length ≤ 9223372036854775807 by omega), qr (show j < 9223372036854775807 by omega), bne]
      have hxl := (qh7 hd.Instances hj).Nets.len
      unfold instB
      rw [← Bool.and_assoc]
      refine Ev.chkT ?_ fun _ => Ev.bind (hL2 _ hxl) ?_
      · simp only [qbg]
        refine Ev.orBP fun hI => ?_
        rw [qdC] at hI
        rw [qg9 hI.1 (by omega)]
        exact .done
      · cases (gt d.Instances j).Nets.all (netB d)
        · exact .done
        · exact hX
  have hL3 : Ev (fun n => qcn d n 0) (bif allN (fun j => portB d (gt d.Ports j)) d.Ports.length then .nxt (d.Ports.length : Int) else .ret false) := by
    refine qdP ?_ (fun j hj X hX => Ev.succ ?_)
    · exact Ev.succ (by simp only [qcn, qv (Nat.le_refl _), cond_false]; exact .done)
    · simp only [qcn, qu hj, cond_true, qat hj, Option.bind_some, qmi hln, qr (show j < 9223372036854775807 by omega)]
      simp only [qdX, Option.bind_some, qbg]
      unfold portB
      exact Ev.okP fun _ => Ev.okP1 fun _ => hX
  unfold qfX
  rw [qgY, qgY]
  refine Ev.bind hL1 ?_
  cases allN (fun j => instB l d (gt d.Instances j)) d.Instances.length
  · exact .done
  · refine Ev.bind hL3 ?_
    cases allN (fun j => portB d (gt d.Ports j)) d.Ports.length <;> exact .done

theorem qmS {l : qA} {d : qk} (h : qf6 l) (hd : qhL d) : Ev (fun n => qfM n l d) (designB l d) := by
  have hli := hd.Instances.len
  have hlp := hd.Ports.len
  have hln := hd.Nets.len
  have hlc := h.Cells.len
  have e : designB l d = ((libB l && (decide (d.Instances.length ≤ 14) && (decide (d.Nets.length ≤ 30) && (decide (d.Ports.length ≤ 8) && (d.Instances.all (instB l d) && d.Ports.all (portB d)))))) && ((namesB (d.Instances.map qq.Name) && (namesB (d.Ports.map qaj.Name) && namesB d.Nets)) && drvB d)) := by
    unfold designB hasNamesB
    generalize libB l = a1
    generalize decide (d.Instances.length ≤ 14) = a2
    generalize decide (d.Nets.length ≤ 30) = a3
    generalize decide (d.Ports.length ≤ 8) = a4
    generalize d.Instances.all (instB l d) = a5
    generalize d.Ports.all (portB d) = a6
    generalize namesB (d.Instances.map qq.Name) = a7
    generalize namesB (d.Ports.map qaj.Name) = a8
    generalize namesB d.Nets = a9
    generalize drvB d = a10
    rw [Bool.eq_iff_iff]
    simp only [Bool.and_eq_true]
    constructor
    · rintro ⟨⟨h1, ⟨h2, h3, h4⟩, h7, h9, h8⟩, h5, h6, h10⟩
      exact ⟨⟨h1, h2, h3, h4, h5, h6⟩, ⟨h7, h8, h9⟩, h10⟩
    · rintro ⟨⟨h1, h2, h3, h4, h5, h6⟩, ⟨h7, h8, h9⟩, h10⟩
      exact ⟨⟨h1, ⟨h2, h3, h4⟩, h7, h9, h8⟩, h5, h6, h10⟩
  rw [e]
  unfold qfM
  refine Ev.guardB ?_ fun hb => ?_
  · refine Ev.or (ql5 h) fun _ => ?_
    rw [show decide ((d.Instances.length : Int) > 14) = !decide (d.Instances.length ≤ 14) by rw [Bool.eq_iff_iff]; simp; omega, show decide ((d.Nets.length : Int) > 30) = !decide (d.Nets.length ≤ 30) by rw [Bool.eq_iff_iff]; simp; omega, show decide ((d.Ports.length : Int) > 8) = !decide (d.Ports.length ≤ 8) by rw [Bool.eq_iff_iff]; simp; omega]
    simp only [qbg]
    exact Ev.orBP fun _ => Ev.orBP fun _ => Ev.orBP fun _ => Ev.neg (qnf h hd)
  · simp only [Bool.and_eq_true] at hb
    obtain ⟨hlib, _, _, _, hI, hP⟩ := hb
    rw [qgY, qbh] at hI hP
    have hL1 : Ev (fun n => qb1 d n ([] : List ByteArray) 0) (d.Instances.map qq.Name, (d.Instances.length : Int)) := by
      refine loopF (Lf := qb1 d) (S := fun j => (d.Instances.take j).map qq.Name) (len := d.Instances.length) (fun n => ?_) (fun j hj X hX => ?_)
      · simp only [qb1, qv (Nat.le_refl _), cond_false, List.take_length]
      · simpa only [qb1, qu hj, cond_true, qat hj, Option.bind_some, qiu hj hli, qfv (g := qq.Name) hj, qr (show j < 9223372036854775807 by omega)] using hX
    have hL2 : Ev (fun n => qbX d n ([] : List ByteArray) 0) (d.Ports.map qaj.Name, (d.Ports.length : Int)) := by
      refine loopF (Lf := qbX d) (S := fun j => (d.Ports.take j).map qaj.Name) (len := d.Ports.length) (fun n => ?_) (fun j hj X hX => ?_)
      · simp only [qbX, qv (Nat.le_refl _), cond_false, List.take_length]
      · simpa only [qbX, qu hj, cond_true, qat hj, Option.bind_some, qiu hj hlp, qfv (g := qaj.Name) hj, qr (show j < 9223372036854775807 by omega)] using hX
    have hL3 : Ev (fun n => qbY d n (vecC (fun _ => 0) d.Nets.length) 0) (vecC (fun k => drvI d k d.Instances.length) d.Nets.length, (d.Instances.length : Int)) := by
      refine loopF (Lf := qbY d) (S := fun j => vecC (fun k => drvI d k j) d.Nets.length) (len := d.Instances.length) (fun n => ?_) (fun j hj X hX => ?_)
      · simp only [qbY, qv (Nat.le_refl _), cond_false]
      · have hxl := (qh7 hd.Instances hj).Nets.len
        obtain ⟨h1, h2, h3⟩ := qlA hlib (hI j hj)
        have hc : drvI d (lastN (gt d.Instances j)).toNat j ≤ j := qfd
        obtain ⟨e1, e2⟩ := qih (c := fun k => drvI d k j) (c' := fun k => drvI d k (j + 1)) h2 h3 (by show drvI _ _ _ < _; omega) (fun k _ => qmf)
        simpa only [qbY, qu hj, cond_true, qat hj, Option.bind_some, qr (show j < 9223372036854775807 by omega), qnz h1 hxl, e1, e2] using hX
    have hL4 : Ev (fun n => qbw d n (vecC (fun k => drvI d k d.Instances.length) d.Nets.length) 0) (vecC (fun k => drvI d k d.Instances.length + drvP d k d.Ports.length) d.Nets.length, (d.Ports.length : Int)) := by
      refine loopF (Lf := qbw d) (S := fun j => vecC (fun k => drvI d k d.Instances.length + drvP d k j) d.Nets.length) (len := d.Ports.length) (fun n => ?_) (fun j hj X hX => ?_)
      · simp only [qbw, qv (Nat.le_refl _), cond_false]
      · have hi := hP j hj
        unfold portB netB at hi
        simp only [Bool.and_eq_true, qdC] at hi
        have hc1 : drvI d (gt d.Ports j).Net.toNat d.Instances.length ≤ d.Instances.length := qfd
        have hc2 : drvP d (gt d.Ports j).Net.toNat j ≤ j := qfd
        simp only [qbw, qu hj, cond_true, qat hj, Option.bind_some, qr (show j < 9223372036854775807 by omega)]
        cases h1 : ((gt d.Ports j).Dir == 1)
        · have : vecC (fun k => drvI d k d.Instances.length + drvP d k (j + 1)) d.Nets.length = vecC (fun k => drvI d k d.Instances.length + drvP d k j) d.Nets.length := by
            refine qhQ (fun k _ => ?_)
            rw [qju, h1]; rfl
          rw [this] at hX
          exact hX
        · obtain ⟨e1, e2⟩ := qih (c := fun k => drvI d k d.Instances.length + drvP d k j) (c' := fun k => drvI d k d.Instances.length + drvP d k (j + 1)) (x := (gt d.Ports j).Net) (m := d.Nets.length) hi.2.1 (by omega) (by show drvI _ _ _ + drvP _ _ _ < _; omega) (fun k _ => by rw [qju, h1, Bool.true_and]; omega)
          simp only [cond_true, Option.bind_some, e1, e2]
          exact hX
    have hL5 : Ev (fun n => qcl (vecC (fun _ => 0) d.Nets.length) (vecC (fun k => drvI d k d.Instances.length + drvP d k d.Ports.length) d.Nets.length) n 0) (bif drvB d then .nxt (d.Nets.length : Int) else .ret false) := by
      refine qdP ?_ (fun j hj X hX => Ev.succ ?_)
      · exact Ev.succ (by simp only [qcl, qiU, qv (Nat.le_refl _), cond_false]; exact .done)
      · simp only [qcl, qiU, qu hj, cond_true, qhX hj, Option.bind_some, bne, qbg, qr (show j < 9223372036854775807 by omega)]
        exact Ev.okP1 fun _ => hX
    refine Ev.bind hL1 (Ev.bind hL2 ?_)
    refine Ev.guardB (Ev.or (qi3 (qjo hd.Instances (fun x hx => hx.Name))) fun _ => Ev.or (qi3 (qjo hd.Ports (fun x hx => hx.Name))) fun _ => Ev.neg (qi3 hd.Nets)) fun _ => ?_
    rw [qjp (m := d.Nets.length) (by omega)]
    simp only [Option.bind_some]
    refine Ev.bind hL3 (Ev.bind hL4 (Ev.bind hL5 ?_))
    cases drvB d <;> exact .done
end Go.Fw


namespace Go.Fw
open Go
set_option maxRecDepth 100000

theorem qqM {m k : Nat} : decide ((m : Int) < (k : Int)) = !decide (k ≤ m) := by rw [Bool.eq_iff_iff]; simp
theorem qjq {m k : Nat} : decide ((m : Int) > (k : Int)) = !decide (m ≤ k) := by rw [Bool.eq_iff_iff]; simp
/-! ### Wires -/

def treeB (w : qac) (j : Nat) : Bool := bif decide (j = 0) then (at0 w.Parent j == -1) && (at0 w.Res j == 0) else inI (at0 w.Parent j) 0 ((j : Int) - 1)
def wireB (w : qac) (s : Int) : Bool :=
  lenB w.Parent 1 8 && (((w.Res.length : Int) == (w.Parent.length : Int)) && (((w.Cap.length : Int) == (w.Parent.length : Int)) && (allN (treeB w) w.Parent.length &&
    ((w.Res.all fun x => inI x 0 1000) && ((w.Cap.all fun x => inI x 0 500) && (((w.Sink.length : Int) == s) && (w.Sink.all fun x => inI x 0 ((w.Parent.length : Int) - 1))))))))

theorem qoD {w : qac} (hl : w.Parent.length ≤ 1048576) (hr : ((w.Res.length : Int) == (w.Parent.length : Int)) = true) : Ev (fun n => qeD n w) (allN (treeB w) w.Parent.length) := by
  rw [beq_iff_eq] at hr
  have hL : Ev (fun n => qaP w n 0) (bif allN (treeB w) w.Parent.length then .nxt (w.Parent.length : Int) else .ret false) := by
    refine qdP ?_ (fun j hj X hX => Ev.succ ?_)
    · exact Ev.succ (by simp only [qaP, qv (Nat.le_refl _), cond_false]; exact .done)
    · simp only [qaP, qu hj, cond_true, qb5 hj, Option.bind_some, qdp, qr (show j < 9223372036854775807 by omega), bne, qbg]
      unfold treeB
      by_cases h0 : j = 0
      · subst h0
        rw [show idx w.Res (0 : Int) = some (at0 w.Res 0) from qb5 (j := 0) (by omega)]
        simp only [Option.bind_some]
        refine Ev.tt (by simp) (Ev.okP fun _ => Ev.okP1 fun _ => Ev.ff (by simp) hX)
      · have e1 : decide (j = 0) = false := by simp; omega
        have e2 : ((j : Int) == 0) = false := by simp; omega
        have e3 : decide ((j : Int) > 0) = true := by simp; omega
        rw [e1, e2, e3, qcZ (show j ≤ 9223372036854775807 by omega)]
        simp only [cond_false, cond_true]
        exact Ev.okP1 fun _ => hX
  unfold qeD
  refine Ev.bind hL ?_
  cases allN (treeB w) w.Parent.length <;> exact .done

theorem qoT {w : qac} {s : Int} (h : qj0 w) : Ev (fun n => qhi n w s) (wireB w s) := by
  have hl := h.Parent.len
  simp only [qhi, qap, Option.bind_some, qdp, qcZ (show w.Parent.length ≤ 9223372036854775807 by omega)]
  unfold wireB
  rw [show inI (w.Parent.length : Int) 1 8 = lenB w.Parent 1 8 from qmE (lo := 1) (hi := 8)]
  exact Ev.andP fun _ => Ev.andP fun hr => Ev.andP fun _ => Ev.and (qoD hl hr) fun _ => Ev.and (qeT h.Res.len) fun _ => Ev.and (qeT h.Cap.len) fun _ => Ev.andP fun _ => Ev.last (qeT h.Sink.len)

theorem qnJ {w : qac} {s : Int} (h : qj0 w) : Ev (fun n => qhh n w s) (wireB w s) := by
  have hl := h.Parent.len
  have hsl := h.Sink.len
  have e : wireB w s = ((decide (1 ≤ w.Parent.length) && (decide (w.Parent.length ≤ 8) && (((w.Res.length : Int) == (w.Parent.length : Int)) && (((w.Cap.length : Int) == (w.Parent.length : Int)) && ((w.Sink.length : Int) == s))))) && (allN (fun j => (inI (at0 w.Cap j) 0 500 && inI (at0 w.Res j) 0 1000) && treeB w j) w.Parent.length && (w.Sink.all fun x => inI x 0 ((w.Parent.length : Int) - 1)))) := by
    unfold wireB lenB
    cases h1 : ((w.Res.length : Int) == (w.Parent.length : Int))
    · simp
    · cases h2 : ((w.Cap.length : Int) == (w.Parent.length : Int))
      · simp
      · rw [beq_iff_eq] at h1 h2
        rw [qij, qij]
        rw [qgI (p := fun x => inI x 0 1000) (d := 0), qgI (p := fun x => inI x 0 500) (d := 0), show w.Res.length = w.Parent.length by omega, show w.Cap.length = w.Parent.length by omega]
        show _ = (_ && ((allN (fun j => inI (w.Cap.getD j 0) 0 500) _ && allN (fun j => inI (w.Res.getD j 0) 0 1000) _ && _) && _))
        generalize allN (fun j => inI (w.Cap.getD j 0) 0 500) w.Parent.length = a1
        generalize allN (fun j => inI (w.Res.getD j 0) 0 1000) w.Parent.length = a2
        generalize allN (fun j => treeB w j) w.Parent.length = a3
        generalize ((w.Sink.length : Int) == s) = a4
        generalize decide (1 ≤ w.Parent.length) = a5
        generalize decide (w.Parent.length ≤ 8) = a6
        generalize (w.Sink.all fun x => inI x 0 ((w.Parent.length : Int) - 1)) = a7
        cases a1 <;> cases a2 <;> cases a3 <;> cases a4 <;> cases a5 <;> cases a6 <;> rfl
  rw [e]
  unfold qhh
  refine Ev.guardB ?_ fun hb => ?_
  · rw [show decide ((w.Parent.length : Int) < 1) = !decide (1 ≤ w.Parent.length) from qqM (k := 1), show decide ((w.Parent.length : Int) > 8) = !decide (w.Parent.length ≤ 8) from qjq (k := 8)]
    simp only [bne, qbg]
    exact Ev.orBP fun _ => Ev.orBP fun _ => Ev.orBP fun _ => Ev.orBP fun _ => .done
  · simp only [Bool.and_eq_true, beq_iff_eq] at hb
    have hL1 : Ev (fun n => qbO w n 0) (bif allN (fun j => (inI (at0 w.Cap j) 0 500 && inI (at0 w.Res j) 0 1000) && treeB w j) w.Parent.length then .nxt (w.Parent.length : Int) else .ret false) := by
      refine qdP ?_ (fun j hj X hX => Ev.succ ?_)
      · exact Ev.succ (by simp only [qbO, qv (Nat.le_refl _), cond_false]; exact .done)
      · simp only [qbO, qu hj, cond_true, qb5 hj, qb5 (show j < w.Cap.length by omega), qb5 (show j < w.Res.length by omega), Option.bind_some, qdX, qr (show j < 9223372036854775807 by omega), bne, qbg]
        refine Ev.chkT (Ev.orBP fun _ => .done) fun _ => ?_
        unfold treeB
        by_cases h0 : j = 0
        · subst h0
          refine Ev.tt (by simp) (Ev.okP fun _ => Ev.okP1 fun _ => Ev.ff (by simp) hX)
        · have e1 : decide (j = 0) = false := by simp; omega
          have e2 : ((j : Int) == 0) = false := by simp; omega
          have e3 : decide ((j : Int) > 0) = true := by simp; omega
          rw [e1, e2, e3, qcZ (show j ≤ 9223372036854775807 by omega)]
          simp only [cond_false, cond_true]
          exact Ev.okP1 fun _ => hX
    have hL2 : Ev (fun n => qdg w n 0) (bif (w.Sink.all fun x => inI x 0 ((w.Parent.length : Int) - 1)) then .nxt (w.Sink.length : Int) else .ret false) :=
      qkh (fun n => by simp only [qdg, qv (Nat.le_refl _), cond_false]) (fun j hj X hX => by
        simp only [qdg, qu hj, cond_true, qgV hj, Option.bind_some, qdX, qcZ (show w.Parent.length ≤ 9223372036854775807 by omega), qr (show j < 9223372036854775807 by omega), qbg]
        exact Ev.okP1 fun _ => hX)
    refine Ev.bind hL1 ?_
    cases allN (fun j => (inI (at0 w.Cap j) 0 500 && inI (at0 w.Res j) 0 1000) && treeB w j) w.Parent.length
    · exact .done
    · refine Ev.bind hL2 ?_
      cases (w.Sink.all fun x => inI x 0 ((w.Parent.length : Int) - 1)) <;> exact .done

/-! ### Places -/

instance : Inhabited Tplace := ⟨⟨0, 0, 0, false⟩⟩
instance : Inhabited Tl05Place := ⟨⟨0, 0, 0, false⟩⟩
def toSp (p : Tplace) : Tl05Place := ⟨p.instance_, p.pin, p.net, p.drives⟩
def plX (i : Nat) (x : qq) (j : Nat) : List Tplace := (List.range j).map fun (k : Nat) => ⟨(i : Int), (k : Int), at0 x.Nets k, decide (k + 1 = x.Nets.length)⟩
def plI (d : qk) (j : Nat) : List Tplace := (List.range j).flatMap fun (i : Nat) => plX i (gt d.Instances i) (gt d.Instances i).Nets.length
def plP (d : qk) (j : Nat) : List Tplace := (List.range j).map fun (i : Nat) => ⟨-1, (i : Int), (gt d.Ports i).Net, (gt d.Ports i).Dir == 1⟩
def places (d : qk) : List Tplace := plI d d.Instances.length ++ plP d d.Ports.length

theorem qm9 {i : Nat} {x : qq} {j : Nat} : plX i x (j + 1) = plX i x j ++ [⟨(i : Int), (j : Int), at0 x.Nets j, decide (j + 1 = x.Nets.length)⟩] := by
  unfold plX; rw [List.range_succ, List.map_append]; rfl
theorem qjd {d : qk} {j : Nat} : plI d (j + 1) = plI d j ++ plX j (gt d.Instances j) (gt d.Instances j).Nets.length := by
  unfold plI; rw [List.range_succ, List.flatMap_append]; simp
theorem qnn {d : qk} {j : Nat} : plP d (j + 1) = plP d j ++ [⟨-1, (j : Int), (gt d.Ports j).Net, (gt d.Ports j).Dir == 1⟩] := by
  unfold plP; rw [List.range_succ, List.map_append]; rfl
theorem qlg {i : Nat} {x : qq} {j : Nat} : (plX i x j).length = j := by simp [plX]
theorem qlh {d : qk} {j : Nat} : (plP d j).length = j := by simp [plP]

/-- What a valid design says of its sizes. -/
structure smallD (d : qk) : Prop where
  ni : d.Instances.length ≤ 14
  nn : d.Nets.length ≤ 30
  np : d.Ports.length ≤ 8
  nx : ∀ i, i < d.Instances.length → 2 ≤ (gt d.Instances i).Nets.length ∧ (gt d.Instances i).Nets.length ≤ 5

theorem qcc {l : qA} {d : qk} (h : designB l d = true) : smallD d := by
  unfold designB hasNamesB libB at h
  simp only [Bool.and_eq_true, decide_eq_true_eq] at h
  obtain ⟨⟨⟨hc, _⟩, ⟨h1, h2, h3⟩, _⟩, hI, _⟩ := h
  refine ⟨h1, h2, h3, fun i hi => ?_⟩
  rw [qgY, qbh] at hI hc
  have := hI i hi
  unfold instB at this
  simp only [Bool.and_eq_true, qdC, beq_iff_eq] at this
  have h5 := qhV (qlG (hc (gt d.Instances i).Cell.toNat (by omega)))
  omega
theorem qj5 {d : qk} (h : smallD d) {j : Nat} (hj : j ≤ d.Instances.length) : (plI d j).length ≤ 5 * j := by
  induction j with
  | zero => exact Nat.le_refl _
  | succ j ih =>
    rw [qjd, List.length_append, qlg]
    have := ih (by omega)
    have := h.nx j (by omega)
    omega
theorem qet {d : qk} (h : smallD d) : (places d).length ≤ 78 := by
  unfold places
  rw [List.length_append, qlh]
  have := qj5 h (Nat.le_refl _)
  have := h.ni
  have := h.np
  omega

theorem qjr {d : qk} (h : smallD d) : Ev (fun n => qbM n d) (places d) := by
  have h1 := h.ni
  have h2 := h.np
  have hL2 : ∀ i, i < d.Instances.length → ∀ pre : List Tplace, pre.length ≤ 100 → Ev (fun n => qa1 (i : Int) (gt d.Instances i) n pre 0) (pre ++ plX i (gt d.Instances i) (gt d.Instances i).Nets.length, ((gt d.Instances i).Nets.length : Int)) := by
    intro i hi pre hp
    have h5 := h.nx i hi
    have := loopF (Lf := qa1 (i : Int) (gt d.Instances i)) (S := fun j => pre ++ plX i (gt d.Instances i) j) (len := (gt d.Instances i).Nets.length) (fin := (pre ++ plX i (gt d.Instances i) (gt d.Instances i).Nets.length, ((gt d.Instances i).Nets.length : Int))) (fun n => by
        simp only [qa1, qv (Nat.le_refl _), cond_false])
      (fun j hj X hX => by
        have hc : (pre ++ plX i (gt d.Instances i) j).length + [(⟨(i : Int), (j : Int), at0 (gt d.Instances i).Nets j, decide (j + 1 = (gt d.Instances i).Nets.length)⟩ : Tplace)].length ≤ 2147483648 := by
          rw [List.length_append, qlg]; simp; omega
        simp only [qa1, qu hj, cond_true, qb5 hj, Option.bind_some, lastE hj (show (gt d.Instances i).Nets.length ≤ 1048576 by omega), qee hc, List.append_assoc, ← qm9, qr (show j < 9223372036854775807 by omega)]
        exact hX)
    simpa [plX] using this
  have hL1 : Ev (fun n => qaZ d n ([] : List Tplace) 0) (plI d d.Instances.length, (d.Instances.length : Int)) := by
    refine loopF (Lf := qaZ d) (S := fun j => plI d j) (len := d.Instances.length) (fun n => ?_) (fun j hj X hX => ?_)
    · simp only [qaZ, qv (Nat.le_refl _), cond_false]
    · simp only [qaZ, qu hj, cond_true, qat hj, Option.bind_some, qr (show j < 9223372036854775807 by omega)]
      refine Ev.bind (hL2 j hj _ (by have := qj5 h (Nat.le_of_lt hj); omega)) ?_
      rw [← qjd]
      exact hX
  have hL3 : Ev (fun n => qa0 d n (plI d d.Instances.length) 0) (places d, (d.Ports.length : Int)) := by
    have := loopF (Lf := qa0 d) (S := fun j => plI d d.Instances.length ++ plP d j) (len := d.Ports.length) (fin := (places d, (d.Ports.length : Int))) (fun n => by
        simp only [qa0, qv (Nat.le_refl _), cond_false]; rfl)
      (fun j hj X hX => by
        have hc : (plI d d.Instances.length ++ plP d j).length + [(⟨-1, (j : Int), (gt d.Ports j).Net, (gt d.Ports j).Dir == 1⟩ : Tplace)].length ≤ 2147483648 := by
          rw [List.length_append, qlh]; have := qj5 h (Nat.le_refl _); simp; omega
        simp only [qa0, qu hj, cond_true, qat hj, Option.bind_some, qee hc, List.append_assoc, ← qnn, qr (show j < 9223372036854775807 by omega)]
        exact hX)
    simpa [plP] using this
  unfold qbM
  exact Ev.bind hL1 (Ev.bind hL3 .done)

theorem qjS {d : qk} (h : smallD d) : Ev (fun n => qeA n d) ((places d).map toSp) := by
  have h1 := h.ni
  have h2 := h.np
  have hL2 : ∀ i, i < d.Instances.length → ∀ pre : List Tplace, pre.length ≤ 100 → Ev (fun n => qbH (i : Int) (gt d.Instances i) n (pre.map toSp) 0) ((pre ++ plX i (gt d.Instances i) (gt d.Instances i).Nets.length).map toSp, ((gt d.Instances i).Nets.length : Int)) := by
    intro i hi pre hp
    have h5 := h.nx i hi
    have := loopF (Lf := qbH (i : Int) (gt d.Instances i)) (S := fun j => (pre ++ plX i (gt d.Instances i) j).map toSp) (len := (gt d.Instances i).Nets.length) (fin := ((pre ++ plX i (gt d.Instances i) (gt d.Instances i).Nets.length).map toSp, ((gt d.Instances i).Nets.length : Int))) (fun n => by
        simp only [qbH, qv (Nat.le_refl _), cond_false])
      (fun j hj X hX => by
        have hc : ((pre ++ plX i (gt d.Instances i) j).map toSp).length + [(⟨(i : Int), (j : Int), at0 (gt d.Instances i).Nets j, decide (j + 1 = (gt d.Instances i).Nets.length)⟩ : Tl05Place)].length ≤ 2147483648 := by
          rw [List.length_map, List.length_append, qlg]; simp; omega
        simp only [qbH, qu hj, cond_true, qb5 hj, Option.bind_some, lastE hj (show (gt d.Instances i).Nets.length ≤ 1048576 by omega), qee hc, qr (show j < 9223372036854775807 by omega)]
        rw [qm9, ← List.append_assoc, List.map_append] at hX
        exact hX)
    simpa [plX] using this
  have hL1 : Ev (fun n => qbK d n ([] : List Tl05Place) 0) ((plI d d.Instances.length).map toSp, (d.Instances.length : Int)) := by
    refine loopF (Lf := qbK d) (S := fun j => (plI d j).map toSp) (len := d.Instances.length) (fun n => ?_) (fun j hj X hX => ?_)
    · simp only [qbK, qv (Nat.le_refl _), cond_false]
    · simp only [qbK, qu hj, cond_true, qat hj, Option.bind_some, qr (show j < 9223372036854775807 by omega)]
      refine Ev.bind (hL2 j hj _ (by have := qj5 h (Nat.le_of_lt hj); omega)) ?_
      rw [← qjd]
      exact hX
  have hL3 : Ev (fun n => qbG d n ((plI d d.Instances.length).map toSp) 0) ((places d).map toSp, (d.Ports.length : Int)) := by
    have := loopF (Lf := qbG d) (S := fun j => (plI d d.Instances.length ++ plP d j).map toSp) (len := d.Ports.length) (fin := ((places d).map toSp, (d.Ports.length : Int))) (fun n => by
        simp only [qbG, qv (Nat.le_refl _), cond_false]; rfl)
      (fun j hj X hX => by
        have hc : ((plI d d.Instances.length ++ plP d j).map toSp).length + [(⟨-1, (j : Int), (gt d.Ports j).Net, (gt d.Ports j).Dir == 1⟩ : Tl05Place)].length ≤ 2147483648 := by
          rw [List.length_map, List.length_append, qlh]; have := qj5 h (Nat.le_refl _); simp; omega
        simp only [qbG, qu hj, cond_true, qat hj, Option.bind_some, qee hc, qr (show j < 9223372036854775807 by omega)]
        rw [qnn, ← List.append_assoc, List.map_append] at hX
        exact hX)
    simpa [plP] using this
  unfold qeA
  exact Ev.bind hL1 (Ev.bind hL3 .done)

def snkQ (d : qk) (k : Int) (i : Nat) : Bool := ((gt (places d) i).net == k) && !(gt (places d) i).drives
def sinksL (d : qk) (k : Int) (j : Nat) : List Int := ((List.range j).filter (snkQ d k)).map fun (i : Nat) => (i : Int)
def snkN (d : qk) (k : Int) : Nat := cntP (snkQ d k) (places d).length
theorem qjn {d : qk} {k : Int} {j : Nat} : sinksL d k (j + 1) = sinksL d k j ++ (bif snkQ d k j then [(j : Int)] else []) := by
  unfold sinksL
  rw [List.range_succ, List.filter_append, List.map_append]
  congr 1
  cases h : snkQ d k j <;> simp [h]
theorem qg0 {d : qk} {k : Int} {j : Nat} : (sinksL d k j).length = cntP (snkQ d k) j := by
  induction j with
  | zero => rfl
  | succ j ih =>
    rw [qjn, List.length_append, ih]
    show _ = cntP (snkQ d k) j + _
    congr 1
    cases snkQ d k j <;> rfl
theorem qq7 {α β : Type} [Inhabited α] [Inhabited β] {xs : List α} {g : α → β} {j : Nat} (h : j < xs.length) : gt (xs.map g) j = g (gt xs j) := by
  rw [qiV (by simpa using h), qiV h]; simp

theorem qnw {d : qk} {k : Int} (h : smallD d) : Ev (fun n => qfO n d k) (sinksL d k (places d).length) := by
  have hl := qet h
  have hL : Ev (fun n => qbA k ((places d).map toSp) n ([] : List Int) 0) (sinksL d k (places d).length, ((places d).length : Int)) := by
    refine loopF (Lf := qbA k ((places d).map toSp)) (S := fun j => sinksL d k j) (len := (places d).length) (fun n => ?_) (fun j hj X hX => ?_)
    · simp only [qbA, List.length_map, qv (Nat.le_refl _), cond_false]
    · have hj' : j < ((places d).map toSp).length := by simpa using hj
      have hc : (sinksL d k j).length + [(j : Int)].length ≤ 2147483648 := by
        rw [qg0]
        have : cntP (snkQ d k) j ≤ j := qfd
        simp; omega
      simp only [qbA, qu hj', cond_true, qat hj', qq7 hj, Option.bind_some, qr (show j < 9223372036854775807 by omega)]
      rw [show ∀ p : Tplace, (toSp p).net = p.net from fun _ => rfl, show ∀ p : Tplace, (toSp p).drives = p.drives from fun _ => rfl]
      refine Ev.bind (b := snkQ d k j) (Ev.andP fun _ => .done) ?_
      rw [qjn] at hX
      cases hq : snkQ d k j
      · rw [hq] at hX
        simp only [cond_false, List.append_nil] at hX ⊢
        exact hX
      · rw [hq] at hX
        simp only [cond_true, qee hc, Option.bind_some] at hX ⊢
        exact hX
  unfold qfO
  exact Ev.bind (qjS h) (Ev.bind hL .done)

theorem qlS {l : qA} {d : qk} (h : designB l d = true) {i : Nat} (hi : i < (places d).length) : 0 ≤ (gt (places d) i).net ∧ (gt (places d) i).net < d.Nets.length := by
  unfold designB at h
  simp only [Bool.and_eq_true] at h
  obtain ⟨_, hI, hP, _⟩ := h
  rw [qgY, qbh] at hI hP
  have hm : gt (places d) i ∈ places d := by rw [qiV hi]; exact List.getElem_mem hi
  generalize gt (places d) i = p at hm
  unfold places at hm
  rcases List.mem_append.1 hm with hm | hm
  · unfold plI at hm
    obtain ⟨i, hi, hm⟩ := List.mem_flatMap.1 hm
    unfold plX at hm
    obtain ⟨k, hk, rfl⟩ := List.mem_map.1 hm
    have := hI i (List.mem_range.1 hi)
    unfold instB at this
    simp only [Bool.and_eq_true] at this
    have h3 := this.2.2
    rw [qgI (d := 0), qbh] at h3
    have h4 := h3 k (List.mem_range.1 hk)
    unfold netB at h4
    rw [qdC] at h4
    show 0 ≤ at0 _ _ ∧ at0 _ _ < _
    unfold at0
    omega
  · unfold plP at hm
    obtain ⟨i, hi, rfl⟩ := List.mem_map.1 hm
    have := hP i (List.mem_range.1 hi)
    unfold portB netB at this
    simp only [Bool.and_eq_true, qdC] at this
    show 0 ≤ (gt d.Ports i).Net ∧ (gt d.Ports i).Net < _
    omega

/-! ### Blocks -/

def blockB (b : qD) : Bool := (designB b.Library b.Design && ((b.Wires.length : Int) == (b.Design.Nets.length : Int))) && allN (fun j => wireB (gt b.Wires j) (snkN b.Design (j : Int))) b.Wires.length

theorem qlD {b : qD} (h : qgk b) : Ev (fun n => qgG n b) (blockB b) := by
  have hwl := h.Wires.len
  unfold qgG blockB
  refine Ev.guardB (Ev.or (qnq h.Library h.Design) fun _ => .done) fun hb => ?_
  rw [Bool.and_eq_true, beq_iff_eq] at hb
  obtain ⟨hd, hw⟩ := hb
  have hs := qcc hd
  have hl := qet hs
  have hn := hs.nn
  rw [qjp (m := b.Wires.length) (by omega)]
  simp only [Option.bind_some]
  have hL1 : Ev (fun n => qbU (places b.Design) n (vecC (fun _ => 0) b.Wires.length) 0) (vecC (fun k => snkN b.Design (k : Int)) b.Wires.length, ((places b.Design).length : Int)) := by
    refine loopF (Lf := qbU (places b.Design)) (S := fun j => vecC (fun k => cntP (snkQ b.Design (k : Int)) j) b.Wires.length) (len := (places b.Design).length) (fun n => ?_) (fun j hj X hX => ?_)
    · simp only [qbU, qv (Nat.le_refl _), cond_false]; rfl
    · simp only [qbU, qu hj, cond_true, qat hj, Option.bind_some, qr (show j < 9223372036854775807 by omega)]
      obtain ⟨n0, n1⟩ := qlS hd hj
      cases h1 : (gt (places b.Design) j).drives
      · have hc : cntP (snkQ b.Design (((gt (places b.Design) j).net.toNat : Nat) : Int)) j ≤ j := qfd
        obtain ⟨e1, e2⟩ := qih (c := fun k => cntP (snkQ b.Design (k : Int)) j) (c' := fun k => cntP (snkQ b.Design (k : Int)) (j + 1)) (x := (gt (places b.Design) j).net) (m := b.Wires.length) n0 (by omega) (by show cntP _ _ < _; omega) (fun k _ => by
          show cntP _ j + (bif snkQ b.Design (k : Int) j then 1 else 0) = _
          unfold snkQ
          rw [h1, Bool.not_false, Bool.and_true])
        simp only [Bool.not_false, cond_true, Option.bind_some, e1, e2]
        exact hX
      · have : vecC (fun k => cntP (snkQ b.Design (k : Int)) (j + 1)) b.Wires.length = vecC (fun k => cntP (snkQ b.Design (k : Int)) j) b.Wires.length := by
          refine qhQ (fun k _ => ?_)
          show cntP _ j + (bif snkQ b.Design (k : Int) j then 1 else 0) = _
          unfold snkQ
          rw [h1, Bool.not_true, Bool.and_false]; rfl
        rw [this] at hX
        exact hX
  have hL2 : Ev (fun n => qcL b (vecC (fun k => snkN b.Design (k : Int)) b.Wires.length) n 0) (bif allN (fun j => wireB (gt b.Wires j) (snkN b.Design (j : Int))) b.Wires.length then .nxt (b.Wires.length : Int) else .ret false) := by
    refine qdP ?_ (fun j hj X hX => Ev.succ ?_)
    · exact Ev.succ (by simp only [qcL, qv (Nat.le_refl _), cond_false]; exact .done)
    · simp only [qcL, qu hj, cond_true, qat hj, qhX hj, Option.bind_some, qr (show j < 9223372036854775807 by omega)]
      exact Ev.chk1 (qoT (qh7 h.Wires hj)) fun _ => hX
  refine Ev.bind (qjr hs) (Ev.bind hL1 (Ev.bind hL2 ?_))
  cases allN (fun j => wireB (gt b.Wires j) (snkN b.Design (j : Int))) b.Wires.length <;> exact .done

theorem qkI {b : qD} (h : qgk b) : Ev (fun n => qfG n b) (blockB b) := by
  have hwl := h.Wires.len
  unfold qfG blockB
  refine Ev.guardB (Ev.or (qmS h.Library h.Design) fun _ => .done) fun hb => ?_
  rw [Bool.and_eq_true] at hb
  have hs := qcc hb.1
  have hL : Ev (fun n => qcT b n 0) (bif allN (fun j => wireB (gt b.Wires j) (snkN b.Design (j : Int))) b.Wires.length then .nxt (b.Wires.length : Int) else .ret false) := by
    refine qdP ?_ (fun j hj X hX => Ev.succ ?_)
    · exact Ev.succ (by simp only [qcT, qv (Nat.le_refl _), cond_false]; exact .done)
    · simp only [qcT, qu hj, cond_true, qat hj, Option.bind_some, qr (show j < 9223372036854775807 by omega)]
      refine Ev.bind (qnw hs) ?_
      rw [qg0]
      exact Ev.chk1 (qnJ (qh7 h.Wires hj)) fun _ => hX
  refine Ev.bind hL ?_
  cases allN (fun j => wireB (gt b.Wires j) (snkN b.Design (j : Int))) b.Wires.length <;> exact .done
end Go.Fw
