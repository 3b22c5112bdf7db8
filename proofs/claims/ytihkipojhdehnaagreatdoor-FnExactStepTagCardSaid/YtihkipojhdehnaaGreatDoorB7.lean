/- By a program of mine (gen.py): for each function a plain function and the proof that the code computes it. -/
import Derived.Test.YtihkipojhdehnaaGreatDoorA3
import Derived.Test.YtihkipojhdehnaaGreatDoorFw34

namespace Go.Fw
open Go Go.Proofs
open Go.RowKit (Below)
set_option maxRecDepth 100000
set_option maxHeartbeats 1600000
def qgW (n : Nat) (t : qC) : Option Bool :=
 (qgv n t.Slews).bind fun r1 =>
 bif r1 then
  (qgv n t.Loads).bind fun r2 =>
  bif r2 then
   bif ((t.Values.length : Int) == (W64 ((t.Slews.length : Int) * (t.Loads.length : Int)))) then
    (qby n t.Values (-1000000) 1000000).bind fun r3 =>
    some r3
   else
    some false
  else
   some false
 else
  some false

theorem qk6 {n : Nat} {w : World} {t : qC} {cs1 : List Value} (ha1 : GoT.R w (old w) t cs1) {r : Bool} (hF : qgW n t = some r) : RetV Tryz.prog 256 [GoT.v qC cs1] w r := by
 obtain ⟨p1, k1, p2, k2, p3, k3, rfl, s1, s2, s3⟩ := qbs ha1
 refine qe Tryz.func256 rfl (m := 29) rfl rfl (fun h => ?_)
 rw [qgW] at hF
 refine zSR (qP h rfl rfl ?_)
 intro w1 bb1 h
 refine zp1 rfl (zNSR (zp1 rfl (zl 0 0 h rfl ?_)))
 obtain ⟨r1, hr1, hF⟩ := qd hF
 refine qp r1 h call265 (qjl ⟨_, _, rfl, (h.oldS s1)⟩ hr1) rfl rfl rfl rfl ?_
 intro w2 h
 refine zp1 rfl ?_
 by_cases hc1 : r1 = true
 ·replace hF := bifT hc1 hF
  refine qF hc1 (t := 6) rfl (qa rfl (zp1 rfl (qa rfl (zl 0 1 h rfl (qa rfl ?_)))))
  obtain ⟨r2, hr2, hF⟩ := qd hF
  refine qp r2 h call265 (qjl ⟨_, _, rfl, (h.oldS s2)⟩ hr2) rfl rfl rfl rfl ?_
  intro w3 h
  refine zp2 rfl ?_
  by_cases hc2 : r2 = true
  ·replace hF := bifT hc2 hF
   refine qF hc2 (t := 11) rfl (qa rfl (zp1 rfl (qa rfl (zl 0 2 h rfl (qa rfl (zp1 rfl (qa rfl (zp1 rfl (qa rfl (zl 0 0 h rfl (qa rfl ?_)))))))))))
   refine zp1 rfl (qa rfl (zp1 rfl (qa rfl (zl 0 1 h rfl (qa rfl (zp1 rfl (qa rfl (zp1 rfl (qa rfl (zp2 rfl ?_))))))))))
   refine zp1 rfl ?_
   by_cases hc3 : ((t.Values.length : Int) == (W64 ((t.Slews.length : Int) * (t.Loads.length : Int)))) = true
   ·replace hF := bifT hc3 hF
    refine qF hc3 (t := 24) rfl (qa rfl (zp1 rfl (qa rfl (zl 0 2 h rfl (qa rfl ?_)))))
    obtain ⟨r3, hr3, hF⟩ := qd hF
    refine qp r3 h call112 (qcL ⟨_, _, rfl, (h.oldS s3)⟩ hr3) rfl rfl rfl rfl ?_
    intro w4 h
    exact zp2 rfl (qb (qv qc h hF ⟨rfl, trivial⟩))
   replace hc3 := zb hc3
   replace hF := bifF hc3 hF
   exact qE hc3 (t := 24) rfl (zn3 rfl (zp2 rfl (qb (qv qc h hF ⟨rfl, trivial⟩))))
  replace hc2 := zb hc2
  replace hF := bifF hc2 hF
  refine qE hc2 (t := 11) rfl (zn5 rfl (zn5 rfl (zn1 rfl ?_)))
  exact zp2 rfl (zn3 rfl (zp2 rfl (qb (qv qc h hF ⟨rfl, trivial⟩))))
 replace hc1 := zb hc1
 replace hF := bifF hc1 hF
 refine qE hc1 (t := 6) rfl (zn3 rfl (zp2 rfl (zn5 rfl (zn1 rfl ?_))))
 refine zn5 rfl (zp2 rfl (zn3 rfl (zp2 rfl ?_)))
 exact qb (qv qc h hF ⟨rfl, trivial⟩)

def qbG (x : (List Int)) : Nat → Int → Int → Option (Int × Int)
 | 0, _, _ => none
 | n + 1, i1, i2 =>
  bif decide (i2 < (x.length : Int)) then
   (idx x i2).bind fun y2 =>
   qbG x n (if y2 < i1 then y2 else i1) (W64 (i2 + 1))
  else
   some (i1, i2)

def qe3 (n : Nat) (x : (List Int)) : Option Int :=
 (
  bif decide ((x.length : Int) < 1) then
   none
  else
   some ()).bind fun _ =>
 (idx x 0).bind fun y1 =>
 (qbG x n y1 1).bind fun o => match o with
 | (i1, _) =>
  some i1

theorem qjT {n : Nat} {w : World} {x : (List Int)} {cs1 : List Value} (ha1 : GoT.R w (old w) x cs1) {r : Int} (hF : qe3 n x = some r) : RetV Tryz.prog 257 [GoT.v (List Int) cs1] w r := by
 obtain ⟨p1, k1, rfl, s1⟩ := ha1
 refine qe Tryz.func257 rfl (m := 25) rfl rfl (fun h => ?_)
 rw [qe3] at hF
 refine zSR (zp1 rfl (zNSSR (zp3 rfl (qb ?_))))
 obtain ⟨KF1, hKF1, o2, hF, hK2⟩ := bindE hF
 refine qeG (fun e w' => KF1 () = some r ∧ e = [(0, .slice p1 x.length k1)] ∧ SH w w' []) ?_ ?_
 ·refine qq rfl hF ?_ ?_ <;> intro hF
  ·refine qz ?_
   cases hF
  refine qdO ?_
  obtain rfl := qh hF
  exact qy [(0, _)] ⟨rfl, trivial⟩ ⟨hK2, rfl, h⟩
 rintro e2 w2 ⟨hF, rfl, h⟩
 subst hKF1
 refine zSR (zp1 rfl ?_)
 obtain ⟨y1, hy1, hF⟩ := qd hF
 have he1 := qg hy1
 obtain ⟨b1, o_1, q1, cs2, hp1, hq1, -, hr1, hc1⟩ := s1.at hy1
 obtain rfl := hr1
 refine zxe hp1 hq1 he1 rfl (zc 0 (hc1.below h.below) rfl (zp1 rfl (zNSSR (zp1 rfl (qb ?_)))))
 obtain ⟨o1, hF, hK1⟩ := qd hF
 refine qw (qR [(0, _), (3, _), (4, _)] ⟨rfl, rfl, rfl, trivial⟩ ?_)
 refine qH (fun m e w' => ∃ (i1 : Int) (i2 : Int), qbG x m i1 i2 = some o1 ∧ e = [(0, .slice p1 x.length k1), (3, .int .i64 i1), (4, .int .i64 i2)] ∧ SH w w' []) n ⟨_, _, hF, rfl, h⟩ ?_
 rintro m1 e1 w1 ⟨i1, i2, hF, rfl, h⟩
 rcases m1 with _ | m1
 ·rw [qbG] at hF
  cases hF
 rw [qbG] at hF
 refine zSSR (zp4 rfl (qb ?_))
 refine qq rfl hF ?_ ?_ <;> intro hF
 ·refine zKSBR (zp3 rfl ?_)
  obtain ⟨y2, hy2, hF⟩ := qd hF
  have he2 := qg hy2
  obtain ⟨b2, o_2, q2, cs3, hp2, hq2, -, hr2, hc3⟩ := s1.at hy2
  obtain rfl := hr2
  exact zxe hp2 hq2 he2 rfl (zc 0 (hc3.below h.below) rfl (zp2 rfl (zNER (zp3 rfl (qb (qA m1 [(0, _), (3, _), (4, _)] (Nat.lt_succ_self m1) ⟨rfl, rfl, rfl, trivial⟩ ⟨_, _, hF, rfl, h⟩))))))
 refine qI rfl ?_
 obtain rfl := qh hF; replace hF := hK1
 exact zSR (zp2 rfl (qb (qaF qc h hF ⟨rfl, trivial⟩)))

def qeU (n : Nat) (t : qC) (v0 : Bool) : Option Bool :=
 (qgW n t).bind fun r1 =>
 bif (!r1) then
  some true
 else
  bif v0 then
   (qe3 n t.Values).bind fun r2 =>
   some (decide (r2 < 0))
  else
   some false

theorem qjL {n : Nat} {w : World} {t : qC} {v0 : Bool} {cs1 : List Value} (ha1 : GoT.R w (old w) t cs1) {p4 : Option Addr} (ha2 : GoT.R w (old w) (some v0) [.pointer p4]) {r : Bool} (hF : qeU n t v0 = some r) : RetV Tryz.prog 255 [GoT.v qC cs1, .pointer p4] w r := by
 obtain ⟨p1, k1, p2, k2, p3, k3, rfl, s1, s2, s3⟩ := qbs ha1
 obtain ⟨b1, o_1, cs2, rfl, -, hr1, hc1⟩ := PtR.get ha2 rfl
 obtain rfl := hr1
 refine qe Tryz.func255 rfl (m := 16) rfl rfl (fun h => ?_)
 rw [qeU] at hF
 refine zSR (qP h rfl rfl ?_)
 intro w1 bb1 h
 refine zp1 rfl (zNSR (zl 0 0 h rfl ?_))
 obtain ⟨r1, hr2, hF⟩ := qd hF
 refine qp r1 h call256 (qk6 (h.old ha1) hr2) rfl rfl rfl rfl ?_
 intro w2 h
 refine zp2 rfl ?_
 by_cases hc2 : (!r1) = true
 ·replace hF := bifT hc2 hF
  exact qF hc2 (t := 7) rfl (zn5 rfl (zn2 rfl (zp2 rfl (qb (qv qc h hF ⟨rfl, trivial⟩)))))
 replace hc2 := zb hc2
 replace hF := bifF hc2 hF
 refine qE hc2 (t := 7) rfl (qa rfl (zc 0 (hc1.below h.below) rfl (qa rfl (zp1 rfl ?_))))
 by_cases hc3 : v0 = true
 ·replace hF := bifT hc3 hF
  refine qF hc3 (t := 9) rfl (qa rfl (zp1 rfl (qa rfl (zl 0 2 h rfl (qa rfl ?_)))))
  obtain ⟨r2, hr3, hF⟩ := qd hF
  refine qU r2 h call257 (qjT ⟨_, _, rfl, (h.oldS s3)⟩ hr3) rfl rfl rfl rfl ?_
  intro w3 h
  exact qa rfl (zp1 rfl (qa rfl (zp3 rfl (qb (qv qc h hF ⟨rfl, trivial⟩)))))
 replace hc3 := zb hc3
 replace hF := bifF hc3 hF
 exact qE hc3 (t := 9) rfl (zn4 rfl (qa rfl (zp3 rfl (qb (qv qc h hF ⟨rfl, trivial⟩)))))

def qL (s : (List qC)) (f_0 : Bool) : Nat → Int → Option (Flow Int Int)
 | 0, _ => none
 | n + 1, i1 =>
  bif decide (i1 < (s.length : Int)) then
   (idx s i1).bind fun y1 =>
   (qeU n y1 f_0).bind fun r1 =>
   bif r1 then
    some (.ret i1)
   else
    qL s f_0 n (W64 (i1 + 1))
  else
   some (.nxt i1)

def qal (n : Nat) (s : (List qC)) (f_0 : Bool) : Option Int :=
 (qL s f_0 n 0).bind fun o => match o with
 | .ret r => some r
 | .nxt _ =>
  some (-1)

theorem qeE {n : Nat} {w : World} {s : (List qC)} {f_0 : Bool} {cs1 : List Value} (ha1 : GoT.R w (old w) s cs1) {p2 : Option Addr} (ha2 : GoT.R w (old w) (some f_0) [.pointer p2]) {r : Int} (hF : qal n s f_0 = some r) : RetV Tryz.prog 264 [GoT.v (List qC) cs1, .func (.func 255) #[] #[.pointer p2]] w r := by
 obtain ⟨p1, k1, rfl, s1⟩ := ha1
 obtain ⟨b1, o_1, cs2, rfl, -, hr1, hc1⟩ := PtR.get ha2 rfl
 obtain rfl := hr1
 refine qe Tryz.func264 rfl (m := 19) rfl rfl (fun h => ?_)
 rw [qal] at hF
 refine zSR (zp1 rfl (zNSSR (zp3 rfl (qb ?_))))
 obtain ⟨o1, hF, hK1⟩ := qd hF
 refine qw (qR [(0, _), (1, _), (7, _), (8, _)] ⟨rfl, rfl, rfl, rfl, trivial⟩ ?_)
 refine qH (fun m e w' => ∃ (i1 : Int), qL s f_0 m i1 = some o1 ∧ e = [(0, .slice p1 s.length k1), (1, .func (.func 255) #[] #[.pointer (some ⟨b1, o_1, none⟩)]), (7, .int .i64 (s.length : Int)), (8, .int .i64 i1)] ∧ SH w w' []) n ⟨_, hF, rfl, h⟩ ?_
 rintro m1 e1 w1 ⟨i1, hF, rfl, h⟩
 rcases m1 with _ | m1
 ·rw [qL] at hF
  cases hF
 rw [qL] at hF
 refine zSR (zp1 rfl (zNS ?_))
 refine qq rfl hF ?_ ?_ <;> intro hF
 ·refine zKSBSR (zp2 rfl (zNSR (zp2 rfl ?_)))
  refine zp1 rfl ?_
  obtain ⟨y1, hy1, hF⟩ := qd hF
  have he1 := qg hy1
  obtain ⟨b2, o_2, q1, cs3, hp1, hq1, -, hr2, hc3⟩ := s1.at hy1
  obtain ⟨p3, k2, p4, k3, p5, k4, rfl, s2, s3, s4⟩ := qbs hr2
  refine zxe hp1 hq1 he1 rfl (zc 0 (hc3.below h.below) rfl ?_)
  obtain ⟨r1, hr3, hF⟩ := qd hF
  refine qp r1 h call255 (qjL (qhl y1 (h.oldS s2) (h.oldS s3) (h.oldS s4)) (h.old ha2) hr3) rfl rfl rfl rfl ?_
  intro w2 h
  refine qb ?_
  refine qq rfl hF ?_ ?_ <;> intro hF
  ·refine zSR (zp2 rfl (qb ?_))
   obtain rfl := qh hF; replace hF := hK1
   exact qaF qc h hF ⟨rfl, trivial⟩
  exact zKER (zp2 rfl (qb (qA m1 [(0, _), (1, _), (7, _), (8, _)] (Nat.lt_succ_self m1) ⟨rfl, rfl, rfl, rfl, trivial⟩ ⟨_, hF, rfl, h⟩)))
 refine qI rfl ?_
 obtain rfl := qh hF; replace hF := hK1
 exact zSR (zp1 rfl (qb (qaF qc h hF ⟨rfl, trivial⟩)))

def qaC (n : Nat) (s : (List qC)) (f_0 : Bool) : Option Bool :=
 (qal n s f_0).bind fun r1 =>
 some (decide (r1 ≥ 0))

theorem qd5 {n : Nat} {w : World} {s : (List qC)} {f_0 : Bool} {cs1 : List Value} (ha1 : GoT.R w (old w) s cs1) {p2 : Option Addr} (ha2 : GoT.R w (old w) (some f_0) [.pointer p2]) {r : Bool} (hF : qaC n s f_0 = some r) : RetV Tryz.prog 254 [GoT.v (List qC) cs1, .func (.func 255) #[] #[.pointer p2]] w r := by
 obtain ⟨p1, k1, rfl, s1⟩ := ha1
 obtain ⟨b1, o_1, cs2, rfl, -, hr1, hc1⟩ := PtR.get ha2 rfl
 obtain rfl := hr1
 refine qe Tryz.func254 rfl (m := 9) rfl rfl (fun h => ?_)
 rw [qaC] at hF
 refine zSR (zp1 rfl (zNSR (zp2 rfl ?_)))
 obtain ⟨r1, hr2, hF⟩ := qd hF
 refine qU r1 h call264 (qeE ⟨_, _, rfl, (h.oldS s1)⟩ (h.old ha2) hr2) rfl rfl rfl rfl ?_
 intro w1 h
 exact zp2 rfl (qb (qv qc h hF ⟨rfl, trivial⟩))

def qd2 (n : Nat) (list : (List qC)) (positive : Bool) : Option Bool :=
 bif ((list.length : Int) == 2) then
  (qaC n list positive).bind fun r1 =>
  some (!r1)
 else
  some false

theorem qgH {n : Nat} {w : World} {list : (List qC)} {positive : Bool} {cs1 : List Value} (ha1 : GoT.R w (old w) list cs1) {r : Bool} (hF : qd2 n list positive = some r) : RetV Tryz.prog 244 [GoT.v (List qC) cs1, .bool positive] w r := by
 obtain ⟨p1, k1, rfl, s1⟩ := ha1
 refine qe Tryz.func244 rfl (m := 14) rfl rfl (fun h => ?_)
 rw [qd2] at hF
 refine zSR (qP h rfl rfl ?_)
 intro w1 bb1 h
 refine zp1 rfl (zNSR (zp4 rfl ?_))
 by_cases hc1 : ((list.length : Int) == 2) = true
 ·replace hF := bifT hc1 hF
  refine qF hc1 (t := 8) rfl (qa rfl (zp1 rfl (qa rfl (zp1 rfl (qa rfl ?_)))))
  obtain ⟨r1, hr1, hF⟩ := qd hF
  refine qp r1 h call254 (qd5 ⟨_, _, rfl, (h.oldS s1)⟩ (qib (x := positive) 0 h rfl rfl) hr1) rfl rfl rfl rfl ?_
  intro w2 h
  exact qa rfl (zp3 rfl (qb (qv qc h hF ⟨rfl, trivial⟩)))
 replace hc1 := zb hc1
 replace hF := bifF hc1 hF
 exact qE hc1 (t := 8) rfl (zn4 rfl (zp2 rfl (qb (qv qc h hF ⟨rfl, trivial⟩))))

def qfu (_ : Nat) (p : qag) : Option Bool :=
 some p.Clock

theorem qjj {n : Nat} {w : World} {p : qag} {cs1 : List Value} (ha1 : GoT.R w (old w) p cs1) {r : Bool} (hF : qfu n p = some r) : RetV Tryz.prog 259 [GoT.v qag cs1] w r := by
 obtain rfl := qa8 ha1
 refine qe Tryz.func259 rfl (m := 5) rfl rfl (fun h => ?_)
 rw [qfu] at hF
 refine zSR (qP h rfl rfl ?_)
 intro w1 bb1 h
 exact zp1 rfl (zNSR (zp1 rfl (zl 0 3 h rfl (zp1 rfl (qb (qv qc h hF ⟨rfl, trivial⟩))))))

def qM (s : (List qag)) : Nat → Int → Option (Flow Int Int)
 | 0, _ => none
 | n + 1, i1 =>
  bif decide (i1 < (s.length : Int)) then
   (idx s i1).bind fun y1 =>
   (qfu n y1).bind fun r1 =>
   bif r1 then
    some (.ret i1)
   else
    qM s n (W64 (i1 + 1))
  else
   some (.nxt i1)

def qaP (n : Nat) (s : (List qag)) : Option Int :=
 (qM s n 0).bind fun o => match o with
 | .ret r => some r
 | .nxt _ =>
  some (-1)

theorem qeH {n : Nat} {w : World} {s : (List qag)} {cs1 : List Value} (ha1 : GoT.R w (old w) s cs1) {r : Int} (hF : qaP n s = some r) : RetV Tryz.prog 258 [GoT.v (List qag) cs1, .func (.func 259) #[] #[]] w r := by
 obtain ⟨p1, k1, rfl, s1⟩ := ha1
 refine qe Tryz.func258 rfl (m := 19) rfl rfl (fun h => ?_)
 rw [qaP] at hF
 refine zSR (zp1 rfl (zNSSR (zp3 rfl (qb ?_))))
 obtain ⟨o1, hF, hK1⟩ := qd hF
 refine qw (qR [(0, _), (1, _), (7, _), (8, _)] ⟨rfl, rfl, rfl, rfl, trivial⟩ ?_)
 refine qH (fun m e w' => ∃ (i1 : Int), qM s m i1 = some o1 ∧ e = [(0, .slice p1 s.length k1), (1, .func (.func 259) #[] #[]), (7, .int .i64 (s.length : Int)), (8, .int .i64 i1)] ∧ SH w w' []) n ⟨_, hF, rfl, h⟩ ?_
 rintro m1 e1 w1 ⟨i1, hF, rfl, h⟩
 rcases m1 with _ | m1
 ·rw [qM] at hF
  cases hF
 rw [qM] at hF
 refine zSR (zp1 rfl (zNS ?_))
 refine qq rfl hF ?_ ?_ <;> intro hF
 ·refine zKSBSR (zp2 rfl (zNSR (zp2 rfl ?_)))
  refine zp1 rfl ?_
  obtain ⟨y1, hy1, hF⟩ := qd hF
  have he1 := qg hy1
  obtain ⟨b1, o_1, q1, cs2, hp1, hq1, -, hr1, hc2⟩ := s1.at hy1
  obtain rfl := qa8 hr1
  refine zxe hp1 hq1 he1 rfl (zc 0 (hc2.below h.below) rfl ?_)
  obtain ⟨r1, hr2, hF⟩ := qd hF
  refine qp r1 h call259 (qjj (qdL y1) hr2) rfl rfl rfl rfl ?_
  intro w2 h
  refine qb ?_
  refine qq rfl hF ?_ ?_ <;> intro hF
  ·refine zSR (zp2 rfl (qb ?_))
   obtain rfl := qh hF; replace hF := hK1
   exact qaF qc h hF ⟨rfl, trivial⟩
  exact zKER (zp2 rfl (qb (qA m1 [(0, _), (1, _), (7, _), (8, _)] (Nat.lt_succ_self m1) ⟨rfl, rfl, rfl, rfl, trivial⟩ ⟨_, hF, rfl, h⟩)))
 refine qI rfl ?_
 obtain rfl := qh hF; replace hF := hK1
 exact zSR (zp1 rfl (qb (qaF qc h hF ⟨rfl, trivial⟩)))

def qfk (n : Nat) (c : qB) : Option Int :=
 (qaP n c.Pins).bind fun r1 =>
 some r1

theorem qj3 {n : Nat} {w : World} {c : qB} {cs1 : List Value} (ha1 : GoT.R w (old w) c cs1) {r : Int} (hF : qfk n c = some r) : RetV Tryz.prog 245 [GoT.v qB cs1] w r := by
 obtain ⟨p1, k1, p2, k2, p3, k3, rfl, s1, s2, s3⟩ := qaj ha1
 refine qe Tryz.func245 rfl (m := 6) rfl rfl (fun h => ?_)
 rw [qfk] at hF
 refine zSR (qP h rfl rfl ?_)
 intro w1 bb1 h
 refine zp1 rfl (zNSR (zp1 rfl (zl 0 2 h rfl ?_)))
 obtain ⟨r1, hr1, hF⟩ := qd hF
 refine qU r1 h call258 (qeH ⟨_, _, rfl, (h.oldS s1)⟩ hr1) rfl rfl rfl rfl ?_
 intro w2 h
 exact zp1 rfl (qb (qaF qc h hF ⟨rfl, trivial⟩))

def qeF (n : Nat) (c : qB) (pin : Int) : Option Bool :=
 (qdh n c).bind fun r1 =>
 (qaI n pin 0 (W64 (r1 - 1))).bind fun r2 =>
 some r2

theorem qhE {n : Nat} {w : World} {c : qB} {pin : Int} {cs1 : List Value} (ha1 : GoT.R w (old w) c cs1) {r : Bool} (hF : qeF n c pin = some r) : RetV Tryz.prog 246 [GoT.v qB cs1, .int .i64 pin] w r := by
 obtain ⟨p1, k1, p2, k2, p3, k3, rfl, s1, s2, s3⟩ := qaj ha1
 refine qe Tryz.func246 rfl (m := 10) rfl rfl (fun h => ?_)
 rw [qeF] at hF
 refine zSR (qP h rfl rfl ?_)
 intro w1 bb1 h
 refine zp1 rfl (zNSR (zp1 rfl (zl 0 0 h rfl ?_)))
 obtain ⟨r1, hr1, hF⟩ := qd hF
 refine qU r1 h call163 (qfZ (h.old ha1) hr1) rfl rfl rfl rfl ?_
 intro w2 h
 refine zp1 rfl ?_
 obtain ⟨r2, hr2, hF⟩ := qd hF
 refine qp r2 h call86 (qap hr2) rfl rfl rfl rfl ?_
 intro w3 h
 exact zp1 rfl (qb (qv qc h hF ⟨rfl, trivial⟩))

def qfn (n : Nat) (a_0 : qB) (a_1 : qX) : Option Bool :=
 (qgJ n a_1.Kind).bind fun r1 =>
 bif r1 then
  (
   bif (a_1.Sense == 0) then
    bif ((a_1.Slew.length : Int) == 0) then
     (qd2 n a_1.Delay false).bind fun r2 =>
     bif r2 then
      (qfk n a_0).bind fun r3 =>
      bif (a_1.From == r3) then
       bif decide (a_1.From ≥ 0) then
        (qeF n a_0 a_1.To).bind fun r4 =>
        bif r4 then
         some (a_1.To != a_1.From)
        else
         some false
       else
        some false
      else
       some false
     else
      some false
    else
     some false
   else
    some false).bind fun b1 =>
  some b1
 else
  (
   (qd2 n a_1.Delay true).bind fun r6 =>
   bif (!r6) then
    some true
   else
    (qd2 n a_1.Slew true).bind fun r7 =>
    bif (!r7) then
     some true
    else
     (qdh n a_0).bind fun r8 =>
     bif (a_1.To != r8) then
      some true
     else
      (qeF n a_0 a_1.From).bind fun r9 =>
      some (!r9)).bind fun b2 =>
  bif b2 then
   some false
  else
   bif (a_1.Kind == 1) then
    (idx a_0.Pins a_1.From).bind fun y1 =>
    bif (!y1.Clock) then
     (qaI n a_1.Sense 1 3).bind fun r5 =>
     some r5
    else
     some false
   else
    (
     bif (a_1.Kind == 2) then
      some (a_1.Kind == 2)
     else
      some (a_1.Kind == 3)).bind fun b4 =>
    bif b4 then
     (idx a_0.Pins a_1.From).bind fun y2 =>
     bif y2.Clock then
      some (a_1.Sense == 0)
     else
      some false
    else
     some false

theorem qj1 {n : Nat} {w : World} {a_0 : qB} {a_1 : qX} {cs1 : List Value} (ha1 : GoT.R w (old w) a_0 cs1) {cs2 : List Value} (ha2 : GoT.R w (old w) a_1 cs2) {r : Bool} (hF : qfn n a_0 a_1 = some r) : RetV Tryz.prog 230 [GoT.v qB cs1, GoT.v qX cs2] w r := by
 obtain ⟨p1, k1, p2, k2, p3, k3, rfl, s1, s2, s3⟩ := qaj ha1
 obtain ⟨p4, k4, p5, k5, rfl, s4, s5⟩ := qaR ha2
 refine qe Tryz.func230 rfl (m := 103) rfl rfl (fun h => ?_)
 rw [qfn] at hF
 refine zSR (qP h rfl rfl ?_)
 intro w1 bb1 h
 refine qP h rfl rfl ?_
 intro w2 bb2 h
 refine zp1 rfl (zNSSR (zp1 rfl (zl 0 0 h rfl ?_)))
 obtain ⟨r1, hr1, hF⟩ := qd hF
 refine qp r1 h call243 (qla hr1) rfl rfl rfl rfl ?_
 intro w3 h
 refine qb ?_
 refine qq rfl hF ?_ ?_ <;> intro hF
 ·refine qbm ?_
  obtain ⟨KF1, hKF1, o1, hF, hK1⟩ := bindE hF
  refine qeG (fun e w' => ∃ (b1 : Bool), KF1 b1 = some r ∧ e = [(4, .bool b1)] ∧ SH w w' []) ?_ ?_
  ·refine qcU rfl (by kernel_rfl) ?_
   refine zd1 rfl ?_
   refine zdl 0 3 h rfl ?_
   refine zd2 rfl ?_
   by_cases hc2 : (a_1.Sense == 0) = true
   ·replace hF := bifT hc2 hF
    refine qde hc2 (t := 11) rfl (qi rfl (zd1 rfl (qi rfl ?_)))
    refine zdl 0 5 h rfl ?_
    refine qi rfl (zd1 rfl (qi rfl (zd3 rfl ?_)))
    by_cases hc3 : ((a_1.Slew.length : Int) == 0) = true
    ·replace hF := bifT hc3 hF
     refine qde hc3 (t := 17) rfl (qi rfl (zd1 rfl (qi rfl ?_)))
     refine zdl 0 4 h rfl ?_
     refine qi rfl ?_
     obtain ⟨r2, hr2, hF⟩ := qd hF
     refine qcn r2 (vsB _) call244 (fun _ hb => qgH ⟨_, _, rfl, ((h.ext hb).oldS s4)⟩ hr2) rfl rfl rfl rfl ?_
     refine zd2 rfl ?_
     by_cases hc4 : r2 = true
     ·replace hF := bifT hc4 hF
      refine qde hc4 (t := 22) rfl (qi rfl (zd1 rfl (qi rfl ?_)))
      refine zdl 0 1 h rfl ?_
      refine qi rfl ?_
      refine zdl 1 0 h rfl ?_
      refine qi rfl ?_
      obtain ⟨r3, hr3, hF⟩ := qd hF
      refine qcn r3 (vsI _) call245 (fun _ hb => qj3 ((h.ext hb).old ha1) hr3) rfl rfl rfl rfl ?_
      refine qi rfl (zd3 rfl ?_)
      by_cases hc5 : (a_1.From == r3) = true
      ·replace hF := bifT hc5 hF
       refine qde hc5 (t := 29) rfl (qi rfl (zd1 rfl (qi rfl ?_)))
       refine zdl 0 1 h rfl ?_
       refine qi rfl (zd3 rfl ?_)
       by_cases hc6 : (decide (a_1.From ≥ 0)) = true
       ·replace hF := bifT hc6 hF
        refine qde hc6 (t := 34) rfl (qi rfl ?_)
        refine zdl 1 0 h rfl ?_
        refine qi rfl (zd1 rfl (qi rfl ?_))
        refine zdl 0 2 h rfl ?_
        refine qi rfl ?_
        obtain ⟨r4, hr4, hF⟩ := qd hF
        refine qcn r4 (vsB _) call246 (fun _ hb => qhE ((h.ext hb).old ha1) hr4) rfl rfl rfl rfl ?_
        refine zd2 rfl ?_
        by_cases hc7 : r4 = true
        ·replace hF := bifT hc7 hF
         refine qde hc7 (t := 40) rfl (qi rfl (zd1 rfl (qi rfl ?_)))
         refine zdl 0 2 h rfl ?_
         refine qi rfl (zd1 rfl (qi rfl ?_))
         refine zdl 0 1 h rfl ?_
         refine qi rfl (zd3 rfl ?_)
         refine qbk (fun w4 hb => ?_)
         replace h := h.ext hb
         clear hb
         replace h := h.pick [] rfl
         obtain rfl := qh hF
         exact qy [(4, _)] ⟨rfl, trivial⟩ ⟨_, hK1, rfl, h⟩
        replace hc7 := zb hc7
        replace hF := bifF hc7 hF
        refine qdl hc7 (t := 40) rfl (qj rfl rfl rfl (qj rfl rfl rfl (qj rfl rfl rfl (qj rfl rfl rfl (qj rfl rfl rfl (zd2 rfl ?_))))))
        refine qbk (fun w5 hb => ?_)
        replace h := h.ext hb
        clear hb
        replace h := h.pick [] rfl
        obtain rfl := qh hF
        exact qy [(4, _)] ⟨rfl, trivial⟩ ⟨_, hK1, rfl, h⟩
       replace hc6 := zb hc6
       replace hF := bifF hc6 hF
       refine qdl hc6 (t := 34) rfl (qj rfl rfl rfl (qj rfl rfl rfl (qj rfl rfl rfl (qj rfl rfl rfl (zd2 rfl (qj rfl rfl rfl (qj rfl rfl rfl (qj rfl rfl rfl (qj rfl rfl rfl (qj rfl rfl rfl ?_))))))))))
       refine zd2 rfl ?_
       refine qbk (fun w6 hb => ?_)
       replace h := h.ext hb
       clear hb
       replace h := h.pick [] rfl
       obtain rfl := qh hF
       exact qy [(4, _)] ⟨rfl, trivial⟩ ⟨_, hK1, rfl, h⟩
      replace hc5 := zb hc5
      replace hF := bifF hc5 hF
      refine qdl hc5 (t := 29) rfl (qj rfl rfl rfl (qj rfl rfl rfl (qj rfl rfl rfl (zd2 rfl (qj rfl rfl rfl (qj rfl rfl rfl (qj rfl rfl rfl (qj rfl rfl rfl (zd2 rfl ?_)))))))))
      refine qj rfl rfl rfl (qj rfl rfl rfl (qj rfl rfl rfl (qj rfl rfl rfl (qj rfl rfl rfl (zd2 rfl ?_)))))
      refine qbk (fun w7 hb => ?_)
      replace h := h.ext hb
      clear hb
      replace h := h.pick [] rfl
      obtain rfl := qh hF
      exact qy [(4, _)] ⟨rfl, trivial⟩ ⟨_, hK1, rfl, h⟩
     replace hc4 := zb hc4
     replace hF := bifF hc4 hF
     refine qdl hc4 (t := 22) rfl (qj rfl rfl rfl (qj rfl rfl rfl (qj rfl rfl rfl (qj rfl rfl rfl (qj rfl rfl rfl (zd2 rfl (qj rfl rfl rfl (qj rfl rfl rfl (qj rfl rfl rfl (zd1 rfl ?_))))))))))
     refine zd1 rfl (qj rfl rfl rfl (qj rfl rfl rfl (qj rfl rfl rfl (qj rfl rfl rfl (zd2 rfl (qj rfl rfl rfl (qj rfl rfl rfl (qj rfl rfl rfl (qj rfl rfl rfl (qj rfl rfl rfl ?_))))))))))
     refine zd2 rfl ?_
     refine qbk (fun w8 hb => ?_)
     replace h := h.ext hb
     clear hb
     replace h := h.pick [] rfl
     obtain rfl := qh hF
     exact qy [(4, _)] ⟨rfl, trivial⟩ ⟨_, hK1, rfl, h⟩
    replace hc3 := zb hc3
    replace hF := bifF hc3 hF
    refine qdl hc3 (t := 17) rfl (qj rfl rfl rfl (qj rfl rfl rfl (qj rfl rfl rfl (zd2 rfl (qj rfl rfl rfl (qj rfl rfl rfl (qj rfl rfl rfl (qj rfl rfl rfl (qj rfl rfl rfl (zd1 rfl ?_))))))))))
    refine zd1 rfl (qj rfl rfl rfl (qj rfl rfl rfl (qj rfl rfl rfl (zd2 rfl (qj rfl rfl rfl (qj rfl rfl rfl (qj rfl rfl rfl (qj rfl rfl rfl (zd2 rfl ?_)))))))))
    refine qj rfl rfl rfl (qj rfl rfl rfl (qj rfl rfl rfl (qj rfl rfl rfl (qj rfl rfl rfl (zd2 rfl ?_)))))
    refine qbk (fun w9 hb => ?_)
    replace h := h.ext hb
    clear hb
    replace h := h.pick [] rfl
    obtain rfl := qh hF
    exact qy [(4, _)] ⟨rfl, trivial⟩ ⟨_, hK1, rfl, h⟩
   replace hc2 := zb hc2
   replace hF := bifF hc2 hF
   refine qdl hc2 (t := 11) rfl (qj rfl rfl rfl (qj rfl rfl rfl (qj rfl rfl rfl (qj rfl rfl rfl (zd2 rfl (qj rfl rfl rfl (qj rfl rfl rfl (qj rfl rfl rfl (zd2 rfl ?_)))))))))
   refine qj rfl rfl rfl (qj rfl rfl rfl (qj rfl rfl rfl (qj rfl rfl rfl (qj rfl rfl rfl (zd2 rfl (qj rfl rfl rfl (qj rfl rfl rfl (qj rfl rfl rfl (zd2 rfl ?_)))))))))
   refine qj rfl rfl rfl (qj rfl rfl rfl (qj rfl rfl rfl (qj rfl rfl rfl (zd2 rfl (qj rfl rfl rfl (qj rfl rfl rfl (qj rfl rfl rfl (qj rfl rfl rfl (qj rfl rfl rfl (zd1 rfl ?_))))))))))
   refine zd1 rfl ?_
   refine qbk (fun w10 hb => ?_)
   replace h := h.ext hb
   clear hb
   replace h := h.pick [] rfl
   obtain rfl := qh hF
   exact qy [(4, _)] ⟨rfl, trivial⟩ ⟨_, hK1, rfl, h⟩
  rintro e1 w11 ⟨b1, hF, rfl, h⟩
  subst hKF1
  exact qv qc h hF ⟨rfl, trivial⟩
 refine zKSS ?_
 obtain ⟨KF3, hKF3, o3, hF, hK3⟩ := bindE hF
 refine qeG (fun e w' => ∃ (b2 : Bool), KF3 b2 = some r ∧ e = [(2, .pointer (some ⟨bb1, 0, none⟩)), (3, .pointer (some ⟨bb2, 0, none⟩)), (70, .bool b2)] ∧ SH w w' [Ch.box bb2 [.int .i64 a_1.Kind, .int .i64 a_1.From, .int .i64 a_1.To, .int .i64 a_1.Sense, .slice p4 a_1.Delay.length k4, .slice p5 a_1.Slew.length k5] 211, Ch.box bb1 [.string a_0.Name, .int .i64 a_0.Kind, .slice p1 a_0.Pins.length k1, .slice p2 a_0.Arcs.length k2, .slice p3 a_0.Truth.length k3, .int .i64 a_0.Leak, .int .i64 a_0.Energy] 183]) ?_ ?_
 ·refine qcU rfl (by kernel_rfl) ?_
  refine zd1 rfl ?_
  refine zdl 0 4 h rfl ?_
  obtain ⟨r6, hr8, hF⟩ := qd hF
  refine qcn r6 (vsB _) call244 (fun _ hb => qgH ⟨_, _, rfl, ((h.ext hb).oldS s4)⟩ hr8) rfl rfl rfl rfl ?_
  refine zd2 rfl ?_
  by_cases hc16 : (!r6) = true
  ·replace hF := bifT hc16 hF
   refine qde hc16 (t := 51) rfl (qj rfl rfl rfl (qj rfl rfl rfl (qj rfl rfl rfl (qj rfl rfl rfl (zd2 rfl (qj rfl rfl rfl (qj rfl rfl rfl (qj rfl rfl rfl (qj rfl rfl rfl (qj rfl rfl rfl ?_))))))))))
   refine zd2 rfl (qj rfl rfl rfl (qj rfl rfl rfl (qj rfl rfl rfl (qj rfl rfl rfl (qj rfl rfl rfl (zd1 rfl ?_))))))
   refine qbk (fun w14 hb => ?_)
   replace h := h.ext hb
   clear hb
   obtain rfl := qh hF
   exact qy [(2, _), (3, _), (70, _)] ⟨rfl, rfl, rfl, trivial⟩ ⟨_, hK3, rfl, h⟩
  replace hc16 := zb hc16
  replace hF := bifF hc16 hF
  refine qdl hc16 (t := 51) rfl (qi rfl (zd1 rfl (qi rfl ?_)))
  refine zdl 0 5 h rfl ?_
  refine qi rfl ?_
  obtain ⟨r7, hr9, hF⟩ := qd hF
  refine qcn r7 (vsB _) call244 (fun _ hb => qgH ⟨_, _, rfl, ((h.ext hb).oldS s5)⟩ hr9) rfl rfl rfl rfl ?_
  refine qi rfl (zd3 rfl ?_)
  by_cases hc17 : (!r7) = true
  ·replace hF := bifT hc17 hF
   refine qde hc17 (t := 57) rfl (qj rfl rfl rfl (qj rfl rfl rfl (qj rfl rfl rfl (qj rfl rfl rfl (qj rfl rfl rfl (zd2 rfl (qj rfl rfl rfl (qj rfl rfl rfl (qj rfl rfl rfl (qj rfl rfl rfl ?_))))))))))
   refine qj rfl rfl rfl (zd1 rfl ?_)
   refine qbk (fun w15 hb => ?_)
   replace h := h.ext hb
   clear hb
   obtain rfl := qh hF
   exact qy [(2, _), (3, _), (70, _)] ⟨rfl, rfl, rfl, trivial⟩ ⟨_, hK3, rfl, h⟩
  replace hc17 := zb hc17
  replace hF := bifF hc17 hF
  refine qdl hc17 (t := 57) rfl (qi rfl (zd1 rfl (qi rfl ?_)))
  refine zdl 0 2 h rfl ?_
  refine qi rfl ?_
  refine zdl 1 0 h rfl ?_
  refine qi rfl ?_
  obtain ⟨r8, hr10, hF⟩ := qd hF
  refine qcn r8 (vsI _) call163 (fun _ hb => qfZ ((h.ext hb).old ha1) hr10) rfl rfl rfl rfl ?_
  refine qi rfl (zd3 rfl ?_)
  by_cases hc18 : (a_1.To != r8) = true
  ·replace hF := bifT hc18 hF
   refine qde hc18 (t := 64) rfl (qj rfl rfl rfl (qj rfl rfl rfl (qj rfl rfl rfl (qj rfl rfl rfl (qj rfl rfl rfl (zd1 rfl ?_))))))
   refine qbk (fun w16 hb => ?_)
   replace h := h.ext hb
   clear hb
   obtain rfl := qh hF
   exact qy [(2, _), (3, _), (70, _)] ⟨rfl, rfl, rfl, trivial⟩ ⟨_, hK3, rfl, h⟩
  replace hc18 := zb hc18
  replace hF := bifF hc18 hF
  refine qdl hc18 (t := 64) rfl (qi rfl ?_)
  refine zdl 1 0 h rfl ?_
  refine qi rfl (zd1 rfl (qi rfl ?_))
  refine zdl 0 1 h rfl ?_
  refine qi rfl ?_
  obtain ⟨r9, hr11, hF⟩ := qd hF
  refine qcn r9 (vsB _) call246 (fun _ hb => qhE ((h.ext hb).old ha1) hr11) rfl rfl rfl rfl ?_
  refine qi rfl (zd2 rfl ?_)
  refine qbk (fun w17 hb => ?_)
  replace h := h.ext hb
  clear hb
  obtain rfl := qh hF
  exact qy [(2, _), (3, _), (70, _)] ⟨rfl, rfl, rfl, trivial⟩ ⟨_, hK3, rfl, h⟩
 rintro e3 w18 ⟨b2, hF, rfl, h⟩
 subst hKF3
 refine qq rfl hF ?_ ?_ <;> intro hF
 ·exact zSR (zp1 rfl (qb (qv qc h hF ⟨rfl, trivial⟩)))
 refine zKSSR (zp1 rfl (zl 0 0 h rfl (qb (zBSR (zp2 rfl ?_)))))
 refine qb ?_
 refine qq rfl hF ?_ ?_ <;> intro hF
 ·refine zSR (zp1 rfl (zl 1 2 h rfl (zp1 rfl (zl 0 1 h rfl ?_))))
  obtain ⟨y1, hy1, hF⟩ := qd hF
  have he1 := qg hy1
  obtain ⟨b3, o_1, q1, cs3, hp1, hq1, -, hr5, hc10⟩ := s1.at hy1
  obtain rfl := qa8 hr5
  refine zxe hp1 hq1 he1 rfl (zp1 rfl (zc 3 (hc10.below h.below) rfl (zp2 rfl ?_)))
  by_cases hc11 : (!y1.Clock) = true
  ·replace hF := bifT hc11 hF
   refine qF hc11 (t := 83) rfl (qa rfl (zp1 rfl (qa rfl (zl 0 3 h rfl (qa rfl ?_)))))
   obtain ⟨r5, hr6, hF⟩ := qd hF
   refine qp r5 h call86 (qap hr6) rfl rfl rfl rfl ?_
   intro w12 h
   exact zp2 rfl (qb (qv qc h hF ⟨rfl, trivial⟩))
  replace hc11 := zb hc11
  replace hF := bifF hc11 hF
  exact qE hc11 (t := 83) rfl (zn3 rfl (zp2 rfl (qb (qv qc h hF ⟨rfl, trivial⟩))))
 refine zSSR (zp2 rfl (qb ?_))
 obtain ⟨KF2, hKF2, o2, hF, hK2⟩ := bindE hF
 refine qeG (fun e w' => ∃ (b4 : Bool), KF2 b4 = some r ∧ e = [(2, .pointer (some ⟨bb1, 0, none⟩)), (3, .pointer (some ⟨bb2, 0, none⟩)), (88, .bool b4)] ∧ SH w w' [Ch.box bb2 [.int .i64 a_1.Kind, .int .i64 a_1.From, .int .i64 a_1.To, .int .i64 a_1.Sense, .slice p4 a_1.Delay.length k4, .slice p5 a_1.Slew.length k5] 211, Ch.box bb1 [.string a_0.Name, .int .i64 a_0.Kind, .slice p1 a_0.Pins.length k1, .slice p2 a_0.Arcs.length k2, .slice p3 a_0.Truth.length k3, .int .i64 a_0.Leak, .int .i64 a_0.Energy] 183]) ?_ ?_
 ·refine qq rfl hF ?_ ?_ <;> intro hF
  ·refine qdO ?_
   obtain rfl := qh hF
   exact qy [(2, _), (3, _), (88, _)] ⟨rfl, rfl, rfl, trivial⟩ ⟨_, hK2, rfl, h⟩
  refine qz (zp2 rfl (qb ?_))
  obtain rfl := qh hF
  exact qy [(2, _), (3, _), (88, _)] ⟨rfl, rfl, rfl, trivial⟩ ⟨_, hK2, rfl, h⟩
 rintro e2 w13 ⟨b4, hF, rfl, h⟩
 subst hKF2
 refine qq rfl hF ?_ ?_ <;> intro hF
 ·refine zSR (zp1 rfl (zl 1 2 h rfl (zp1 rfl (zl 0 1 h rfl ?_))))
  obtain ⟨y2, hy2, hF⟩ := qd hF
  have he2 := qg hy2
  obtain ⟨b5, o_2, q2, cs4, hp2, hq2, -, hr7, hc13⟩ := s1.at hy2
  obtain rfl := qa8 hr7
  refine zxe hp2 hq2 he2 rfl (zp1 rfl (zc 3 (hc13.below h.below) rfl (zp1 rfl ?_)))
  by_cases hc14 : y2.Clock = true
  ·replace hF := bifT hc14 hF
   exact qF hc14 (t := 98) rfl (qa rfl (zp1 rfl (qa rfl (zl 0 3 h rfl (qa rfl (zp3 rfl (qb (qv qc h hF ⟨rfl, trivial⟩))))))))
  replace hc14 := zb hc14
  replace hF := bifF hc14 hF
  exact qE hc14 (t := 98) rfl (zn3 rfl (zp2 rfl (qb (qv qc h hF ⟨rfl, trivial⟩))))
 exact zKE (zSR (zp1 rfl (qb (qv qc h hF ⟨rfl, trivial⟩))))

def qdK (_ : Nat) (a_o : qX) (v0 : qX) : Option Bool :=
 bif (a_o.Kind == v0.Kind) then
  bif (a_o.From == v0.From) then
   some (a_o.To == v0.To)
  else
   some false
 else
  some false

theorem qiK {n : Nat} {w : World} {a_o : qX} {v0 : qX} {cs1 : List Value} (ha1 : GoT.R w (old w) a_o cs1) {p3 : Option Addr} (ha2 : GoT.R w (old w) (some v0) [.pointer p3]) {r : Bool} (hF : qdK n a_o v0 = some r) : RetV Tryz.prog 231 [GoT.v qX cs1, .pointer p3] w r := by
 obtain ⟨p1, k1, p2, k2, rfl, s1, s2⟩ := qaR ha1
 obtain ⟨b1, o_1, cs2, rfl, -, hr1, hc1⟩ := PtR.get ha2 rfl
 obtain ⟨p4, k3, p5, k4, rfl, s3, s4⟩ := qaR hr1
 refine qe Tryz.func231 rfl (m := 23) rfl rfl (fun h => ?_)
 rw [qdK] at hF
 refine zSR (qP h rfl rfl ?_)
 intro w1 bb1 h
 refine zp1 rfl (zNSR (zp1 rfl (zl 0 0 h rfl (zp1 rfl (zc 0 (hc1.below h.below) rfl (zp2 rfl ?_))))))
 by_cases hc2 : (a_o.Kind == v0.Kind) = true
 ·replace hF := bifT hc2 hF
  refine qF hc2 (t := 9) rfl (qa rfl (zp1 rfl (qa rfl (zl 0 1 h rfl (qa rfl (zp1 rfl (qa rfl (zc 1 (hc1.below h.below) rfl (qa rfl (zp2 rfl ?_))))))))))
  refine zp1 rfl ?_
  by_cases hc3 : (a_o.From == v0.From) = true
  ·replace hF := bifT hc3 hF
   refine qF hc3 (t := 16) rfl (qa rfl (zp1 rfl (qa rfl (zl 0 2 h rfl (qa rfl (zp1 rfl (qa rfl (zc 2 (hc1.below h.below) rfl (qa rfl (zp2 rfl ?_))))))))))
   exact zp1 rfl (qb (qv qc h hF ⟨rfl, trivial⟩))
  replace hc3 := zb hc3
  replace hF := bifF hc3 hF
  exact qE hc3 (t := 16) rfl (zn5 rfl (zp2 rfl (qb (qv qc h hF ⟨rfl, trivial⟩))))
 replace hc2 := zb hc2
 replace hF := bifF hc2 hF
 refine qE hc2 (t := 9) rfl (zn5 rfl (zp2 rfl (zn4 rfl ?_)))
 exact zn1 rfl (zp2 rfl (qb (qv qc h hF ⟨rfl, trivial⟩)))

def qK (s : (List qX)) (f_0 : qX) : Nat → Int → Option (Flow Int Int)
 | 0, _ => none
 | n + 1, i1 =>
  bif decide (i1 < (s.length : Int)) then
   (idx s i1).bind fun y1 =>
   (qdK n y1 f_0).bind fun r1 =>
   bif r1 then
    some (.ret i1)
   else
    qK s f_0 n (W64 (i1 + 1))
  else
   some (.nxt i1)

def qaJ (n : Nat) (s : (List qX)) (f_0 : qX) : Option Int :=
 (qK s f_0 n 0).bind fun o => match o with
 | .ret r => some r
 | .nxt _ =>
  some (-1)

theorem qek {n : Nat} {w : World} {s : (List qX)} {f_0 : qX} {cs1 : List Value} (ha1 : GoT.R w (old w) s cs1) {p2 : Option Addr} (ha2 : GoT.R w (old w) (some f_0) [.pointer p2]) {r : Int} (hF : qaJ n s f_0 = some r) : RetV Tryz.prog 191 [GoT.v (List qX) cs1, .func (.func 231) #[] #[.pointer p2]] w r := by
 obtain ⟨p1, k1, rfl, s1⟩ := ha1
 obtain ⟨b1, o_1, cs2, rfl, -, hr1, hc1⟩ := PtR.get ha2 rfl
 obtain ⟨p3, k2, p4, k3, rfl, s2, s3⟩ := qaR hr1
 refine qe Tryz.func191 rfl (m := 19) rfl rfl (fun h => ?_)
 rw [qaJ] at hF
 refine zSR (zp1 rfl (zNSSR (zp3 rfl (qb ?_))))
 obtain ⟨o1, hF, hK1⟩ := qd hF
 refine qw (qR [(0, _), (1, _), (7, _), (8, _)] ⟨rfl, rfl, rfl, rfl, trivial⟩ ?_)
 refine qH (fun m e w' => ∃ (i1 : Int), qK s f_0 m i1 = some o1 ∧ e = [(0, .slice p1 s.length k1), (1, .func (.func 231) #[] #[.pointer (some ⟨b1, o_1, none⟩)]), (7, .int .i64 (s.length : Int)), (8, .int .i64 i1)] ∧ SH w w' []) n ⟨_, hF, rfl, h⟩ ?_
 rintro m1 e1 w1 ⟨i1, hF, rfl, h⟩
 rcases m1 with _ | m1
 ·rw [qK] at hF
  cases hF
 rw [qK] at hF
 refine zSR (zp1 rfl (zNS ?_))
 refine qq rfl hF ?_ ?_ <;> intro hF
 ·refine zKSBSR (zp2 rfl (zNSR (zp2 rfl ?_)))
  refine zp1 rfl ?_
  obtain ⟨y1, hy1, hF⟩ := qd hF
  have he1 := qg hy1
  obtain ⟨b2, o_2, q1, cs3, hp1, hq1, -, hr2, hc3⟩ := s1.at hy1
  obtain ⟨p5, k4, p6, k5, rfl, s4, s5⟩ := qaR hr2
  refine zxe hp1 hq1 he1 rfl (zc 0 (hc3.below h.below) rfl ?_)
  obtain ⟨r1, hr3, hF⟩ := qd hF
  refine qp r1 h call231 (qiK (qf3 y1 (h.oldS s4) (h.oldS s5)) (h.old ha2) hr3) rfl rfl rfl rfl ?_
  intro w2 h
  refine qb ?_
  refine qq rfl hF ?_ ?_ <;> intro hF
  ·refine zSR (zp2 rfl (qb ?_))
   obtain rfl := qh hF; replace hF := hK1
   exact qaF qc h hF ⟨rfl, trivial⟩
  exact zKER (zp2 rfl (qb (qA m1 [(0, _), (1, _), (7, _), (8, _)] (Nat.lt_succ_self m1) ⟨rfl, rfl, rfl, rfl, trivial⟩ ⟨_, hF, rfl, h⟩)))
 refine qI rfl ?_
 obtain rfl := qh hF; replace hF := hK1
 exact zSR (zp1 rfl (qb (qaF qc h hF ⟨rfl, trivial⟩)))

def qad (n : Nat) (s : (List qX)) (f_0 : qX) : Option Bool :=
 (qaJ n s f_0).bind fun r1 =>
 some (decide (r1 ≥ 0))

theorem qdY {n : Nat} {w : World} {s : (List qX)} {f_0 : qX} {cs1 : List Value} (ha1 : GoT.R w (old w) s cs1) {p2 : Option Addr} (ha2 : GoT.R w (old w) (some f_0) [.pointer p2]) {r : Bool} (hF : qad n s f_0 = some r) : RetV Tryz.prog 160 [GoT.v (List qX) cs1, .func (.func 231) #[] #[.pointer p2]] w r := by
 obtain ⟨p1, k1, rfl, s1⟩ := ha1
 obtain ⟨b1, o_1, cs2, rfl, -, hr1, hc1⟩ := PtR.get ha2 rfl
 obtain ⟨p3, k2, p4, k3, rfl, s2, s3⟩ := qaR hr1
 refine qe Tryz.func160 rfl (m := 9) rfl rfl (fun h => ?_)
 rw [qad] at hF
 refine zSR (zp1 rfl (zNSR (zp2 rfl ?_)))
 obtain ⟨r1, hr2, hF⟩ := qd hF
 refine qU r1 h call191 (qek ⟨_, _, rfl, (h.oldS s1)⟩ (h.old ha2) hr2) rfl rfl rfl rfl ?_
 intro w1 h
 exact zp2 rfl (qb (qv qc h hF ⟨rfl, trivial⟩))

def qbr (c : qB) : Nat → Int → Option (Flow Bool Int)
 | 0, _ => none
 | n + 1, i1 =>
  bif decide (i1 < (c.Arcs.length : Int)) then
   (idx c.Arcs i1).bind fun y1 =>
   (qfn n c y1).bind fun r1 =>
   bif (!r1) then
    some (.ret false)
   else
    (subS c.Arcs 0 i1).bind fun x1 =>
    (qad n x1 y1).bind fun r2 =>
    bif r2 then
     some (.ret false)
    else
     qbr c n (W64 (i1 + 1))
  else
   some (.nxt i1)

def qeC (n : Nat) (c : qB) : Option Bool :=
 (qbr c n 0).bind fun o => match o with
 | .ret r => some r
 | .nxt _ =>
  some (decide ((c.Arcs.length : Int) ≤ 8))

theorem qjm {n : Nat} {w : World} {c : qB} {cs1 : List Value} (ha1 : GoT.R w (old w) c cs1) {r : Bool} (hF : qeC n c = some r) : RetV Tryz.prog 220 [GoT.v qB cs1] w r := by
 obtain ⟨p1, k1, p2, k2, p3, k3, rfl, s1, s2, s3⟩ := qaj ha1
 refine qe Tryz.func220 rfl (m := 30) rfl rfl (fun h => ?_)
 rw [qeC] at hF
 refine zSR (qP h rfl rfl ?_)
 intro w1 bb1 h
 refine zp1 rfl (zNSSR (zp1 rfl (zl 0 3 h rfl (zp2 rfl (qb ?_)))))
 obtain ⟨o1, hF, hK1⟩ := qd hF
 refine qw (qR [(1, _), (6, _), (7, _), (8, _)] ⟨rfl, rfl, rfl, rfl, trivial⟩ ?_)
 refine qH (fun m e w' => ∃ (i1 : Int), qbr c m i1 = some o1 ∧ e = [(1, .pointer (some ⟨bb1, 0, none⟩)), (6, .slice p2 c.Arcs.length k2), (7, .int .i64 (c.Arcs.length : Int)), (8, .int .i64 i1)] ∧ SH w w' [Ch.box bb1 [.string c.Name, .int .i64 c.Kind, .slice p1 c.Pins.length k1, .slice p2 c.Arcs.length k2, .slice p3 c.Truth.length k3, .int .i64 c.Leak, .int .i64 c.Energy] 183]) n ⟨_, hF, rfl, h⟩ ?_
 rintro m1 e1 w2 ⟨i1, hF, rfl, h⟩
 rcases m1 with _ | m1
 ·rw [qbr] at hF
  cases hF
 rw [qbr] at hF
 refine zSR (zp1 rfl (zNS ?_))
 refine qq rfl hF ?_ ?_ <;> intro hF
 ·refine zKSBSR (zp1 rfl ?_)
  obtain ⟨y1, hy1, hF⟩ := qd hF
  have he1 := qg hy1
  obtain ⟨b1, o_1, q1, cs2, hp1, hq1, -, hr1, hc2⟩ := s2.at hy1
  obtain ⟨p4, k4, p5, k5, rfl, s4, s5⟩ := qaR hr1
  refine zxe hp1 hq1 he1 rfl (zc 0 (hc2.below h.below) rfl (qah qc h rfl rfl rfl ?_))
  intro w3 bb2 h
  refine zp1 rfl (zs 0 h rfl ?_)
  intro w4 h
  refine zNSR (zl 1 0 h rfl (zl 0 0 h rfl ?_))
  obtain ⟨r1, hr2, hF⟩ := qd hF
  refine qp r1 h call230 (qj1 (h.old ha1) (qf3 y1 (h.oldS s4) (h.oldS s5)) hr2) rfl rfl rfl rfl ?_
  intro w5 h
  refine zp2 rfl ?_
  by_cases hc3 : (!r1) = true
  ·replace hF := bifT hc3 hF
   refine qF hc3 (t := 17) rfl (zn5 rfl (zn1 rfl (zp1 rfl (qb (qeN rfl rfl (zSR ?_))))))
   refine zp1 rfl (qb ?_)
   obtain rfl := qh hF; replace hF := hK1
   exact qv qc h hF ⟨rfl, trivial⟩
  replace hc3 := zb hc3
  replace hF := bifF hc3 hF
  refine qE hc3 (t := 17) rfl (qa rfl (zp1 rfl (qa rfl (zl 1 3 h rfl (qa rfl (zp1 rfl (qa rfl ?_)))))))
  obtain ⟨x1, hx1, hF⟩ := qd hF
  obtain ⟨p6, k6, hp2, hk1, hl1, g1⟩ := qqd (h.oldS s2) hx1
  refine r_v (qoa qc rfl rfl rfl (qqb g1 rfl) hp2 hk1 hl1 rfl rfl rfl rfl) rfl ?_
  have s6 := qpV s2 hx1 hp2 hk1
  refine qa rfl (zp1 rfl (qa rfl ?_))
  obtain ⟨r2, hr3, hF⟩ := qd hF
  refine qp r2 h call160 (qdY ⟨_, _, rfl, (h.oldS s6)⟩ (qib (x := y1) 0 h rfl (qf3 y1 (h.oldS s4) (h.oldS s5))) hr3) rfl rfl rfl rfl ?_
  intro w6 h
  refine zp1 rfl (qb ?_)
  refine qq rfl hF ?_ ?_ <;> intro hF
  ·refine zSR (zp1 rfl (qb ?_))
   obtain rfl := qh hF; replace hF := hK1
   exact qv qc h hF ⟨rfl, trivial⟩
  refine zKER (zp2 rfl (qb ?_))
  replace h := h.pick [1] rfl
  exact qA m1 [(1, _), (6, _), (7, _), (8, _)] (Nat.lt_succ_self m1) ⟨rfl, rfl, rfl, rfl, trivial⟩ ⟨_, hF, rfl, h⟩
 refine qI rfl ?_
 obtain rfl := qh hF; replace hF := hK1
 exact zSR (zp1 rfl (zl 0 3 h rfl (zp3 rfl (qb (qv qc h hF ⟨rfl, trivial⟩)))))

def qgf (_ : Nat) (a : qX) (v0 : Int) : Option Bool :=
 some (a.Kind == v0)

theorem qj5 {n : Nat} {w : World} {a : qX} {v0 : Int} {cs1 : List Value} (ha1 : GoT.R w (old w) a cs1) {p3 : Option Addr} (ha2 : GoT.R w (old w) (some v0) [.pointer p3]) {r : Bool} (hF : qgf n a v0 = some r) : RetV Tryz.prog 247 [GoT.v qX cs1, .pointer p3] w r := by
 obtain ⟨p1, k1, p2, k2, rfl, s1, s2⟩ := qaR ha1
 obtain ⟨b1, o_1, cs2, rfl, -, hr1, hc1⟩ := PtR.get ha2 rfl
 obtain rfl := hr1
 refine qe Tryz.func247 rfl (m := 8) rfl rfl (fun h => ?_)
 rw [qgf] at hF
 refine zSR (qP h rfl rfl ?_)
 intro w1 bb1 h
 exact zp1 rfl (zNSR (zp1 rfl (zl 0 0 h rfl (zc 0 (hc1.below h.below) rfl (zp2 rfl (qb (qv qc h hF ⟨rfl, trivial⟩)))))))

def qN (s : (List qX)) (f_0 : Int) : Nat → Int → Option (Flow Int Int)
 | 0, _ => none
 | n + 1, i1 =>
  bif decide (i1 < (s.length : Int)) then
   (idx s i1).bind fun y1 =>
   (qgf n y1 f_0).bind fun r1 =>
   bif r1 then
    some (.ret i1)
   else
    qN s f_0 n (W64 (i1 + 1))
  else
   some (.nxt i1)

def qaW (n : Nat) (s : (List qX)) (f_0 : Int) : Option Int :=
 (qN s f_0 n 0).bind fun o => match o with
 | .ret r => some r
 | .nxt _ =>
  some (-1)

theorem qe1 {n : Nat} {w : World} {s : (List qX)} {f_0 : Int} {cs1 : List Value} (ha1 : GoT.R w (old w) s cs1) {p2 : Option Addr} (ha2 : GoT.R w (old w) (some f_0) [.pointer p2]) {r : Int} (hF : qaW n s f_0 = some r) : RetV Tryz.prog 191 [GoT.v (List qX) cs1, .func (.func 247) #[] #[.pointer p2]] w r := by
 obtain ⟨p1, k1, rfl, s1⟩ := ha1
 obtain ⟨b1, o_1, cs2, rfl, -, hr1, hc1⟩ := PtR.get ha2 rfl
 obtain rfl := hr1
 refine qe Tryz.func191 rfl (m := 19) rfl rfl (fun h => ?_)
 rw [qaW] at hF
 refine zSR (zp1 rfl (zNSSR (zp3 rfl (qb ?_))))
 obtain ⟨o1, hF, hK1⟩ := qd hF
 refine qw (qR [(0, _), (1, _), (7, _), (8, _)] ⟨rfl, rfl, rfl, rfl, trivial⟩ ?_)
 refine qH (fun m e w' => ∃ (i1 : Int), qN s f_0 m i1 = some o1 ∧ e = [(0, .slice p1 s.length k1), (1, .func (.func 247) #[] #[.pointer (some ⟨b1, o_1, none⟩)]), (7, .int .i64 (s.length : Int)), (8, .int .i64 i1)] ∧ SH w w' []) n ⟨_, hF, rfl, h⟩ ?_
 rintro m1 e1 w1 ⟨i1, hF, rfl, h⟩
 rcases m1 with _ | m1
 ·rw [qN] at hF
  cases hF
 rw [qN] at hF
 refine zSR (zp1 rfl (zNS ?_))
 refine qq rfl hF ?_ ?_ <;> intro hF
 ·refine zKSBSR (zp2 rfl (zNSR (zp2 rfl ?_)))
  refine zp1 rfl ?_
  obtain ⟨y1, hy1, hF⟩ := qd hF
  have he1 := qg hy1
  obtain ⟨b2, o_2, q1, cs3, hp1, hq1, -, hr2, hc3⟩ := s1.at hy1
  obtain ⟨p3, k2, p4, k3, rfl, s2, s3⟩ := qaR hr2
  refine zxe hp1 hq1 he1 rfl (zc 0 (hc3.below h.below) rfl ?_)
  obtain ⟨r1, hr3, hF⟩ := qd hF
  refine qp r1 h call247 (qj5 (qf3 y1 (h.oldS s2) (h.oldS s3)) (h.old ha2) hr3) rfl rfl rfl rfl ?_
  intro w2 h
  refine qb ?_
  refine qq rfl hF ?_ ?_ <;> intro hF
  ·refine zSR (zp2 rfl (qb ?_))
   obtain rfl := qh hF; replace hF := hK1
   exact qaF qc h hF ⟨rfl, trivial⟩
  exact zKER (zp2 rfl (qb (qA m1 [(0, _), (1, _), (7, _), (8, _)] (Nat.lt_succ_self m1) ⟨rfl, rfl, rfl, rfl, trivial⟩ ⟨_, hF, rfl, h⟩)))
 refine qI rfl ?_
 obtain rfl := qh hF; replace hF := hK1
 exact zSR (zp1 rfl (qb (qaF qc h hF ⟨rfl, trivial⟩)))

def qaK (n : Nat) (s : (List qX)) (f_0 : Int) : Option Bool :=
 (qaW n s f_0).bind fun r1 =>
 some (decide (r1 ≥ 0))

theorem qeu {n : Nat} {w : World} {s : (List qX)} {f_0 : Int} {cs1 : List Value} (ha1 : GoT.R w (old w) s cs1) {p2 : Option Addr} (ha2 : GoT.R w (old w) (some f_0) [.pointer p2]) {r : Bool} (hF : qaK n s f_0 = some r) : RetV Tryz.prog 160 [GoT.v (List qX) cs1, .func (.func 247) #[] #[.pointer p2]] w r := by
 obtain ⟨p1, k1, rfl, s1⟩ := ha1
 obtain ⟨b1, o_1, cs2, rfl, -, hr1, hc1⟩ := PtR.get ha2 rfl
 obtain rfl := hr1
 refine qe Tryz.func160 rfl (m := 9) rfl rfl (fun h => ?_)
 rw [qaK] at hF
 refine zSR (zp1 rfl (zNSR (zp2 rfl ?_)))
 obtain ⟨r1, hr2, hF⟩ := qd hF
 refine qU r1 h call191 (qe1 ⟨_, _, rfl, (h.oldS s1)⟩ (h.old ha2) hr2) rfl rfl rfl rfl ?_
 intro w1 h
 exact zp2 rfl (qb (qv qc h hF ⟨rfl, trivial⟩))

def qcI (n : Nat) (c : qB) (kind : Int) : Option Bool :=
 (qaK n c.Arcs kind).bind fun r1 =>
 some r1

theorem qdV {n : Nat} {w : World} {c : qB} {kind : Int} {cs1 : List Value} (ha1 : GoT.R w (old w) c cs1) {r : Bool} (hF : qcI n c kind = some r) : RetV Tryz.prog 232 [GoT.v qB cs1, .int .i64 kind] w r := by
 obtain ⟨p1, k1, p2, k2, p3, k3, rfl, s1, s2, s3⟩ := qaj ha1
 refine qe Tryz.func232 rfl (m := 9) rfl rfl (fun h => ?_)
 rw [qcI] at hF
 refine zSR (qP h rfl rfl ?_)
 intro w1 bb1 h
 refine qP h rfl rfl ?_
 intro w2 bb2 h
 refine zp1 rfl (zNSR (zp1 rfl (zl 1 3 h rfl (zp1 rfl ?_))))
 obtain ⟨r1, hr1, hF⟩ := qd hF
 refine qp r1 h call160 (qeu ⟨_, _, rfl, (h.oldS s2)⟩ (qib (x := kind) 0 h rfl rfl) hr1) rfl rfl rfl rfl ?_
 intro w3 h
 exact zp1 rfl (qb (qv qc h hF ⟨rfl, trivial⟩))

def qaN (a_0 : qB) : Nat → Int → Int → Option (Int × Int)
 | 0, _, _ => none
 | n + 1, i1, i2 =>
  bif decide (i2 < (a_0.Pins.length : Int)) then
   (idx a_0.Pins i2).bind fun y1 =>
   bif y1.Clock then
    qaN a_0 n (W64 (i1 + 1)) (W64 (i2 + 1))
   else
    qaN a_0 n i1 (W64 (i2 + 1))
  else
   some (i1, i2)

def qea (n : Nat) (a_0 : qB) : Option Bool :=
 (qaN a_0 n 0 0).bind fun o => match o with
 | (i1, _) =>
  bif (a_0.Kind == 1) then
   bif (i1 == 0) then
    (qdh n a_0).bind fun r1 =>
    (shlS 1 r1).bind fun y2 =>
    bif ((a_0.Truth.length : Int) == y2) then
     (qby n a_0.Truth 0 1).bind fun r2 =>
     some r2
    else
     some false
   else
    some false
  else
   bif (a_0.Kind == 2) then
    bif (i1 == 1) then
     bif ((a_0.Truth.length : Int) == 0) then
      (qcI n a_0 1).bind fun r3 =>
      bif (!r3) then
       (qcI n a_0 2).bind fun r4 =>
       (qcI n a_0 3).bind fun r5 =>
       some (!(r4 == r5))
      else
       some false
     else
      some false
    else
     some false
   else
    bif (a_0.Kind == 3) then
     bif (i1 == 1) then
      bif ((a_0.Truth.length : Int) == 0) then
       (qcI n a_0 1).bind fun r6 =>
       bif r6 then
        (qcI n a_0 2).bind fun r7 =>
        bif r7 then
         (qcI n a_0 3).bind fun r8 =>
         some (!r8)
        else
         some false
       else
        some false
      else
       some false
     else
      some false
    else
     some false

theorem qi3 {n : Nat} {w : World} {a_0 : qB} {cs1 : List Value} (ha1 : GoT.R w (old w) a_0 cs1) {r : Bool} (hF : qea n a_0 = some r) : RetV Tryz.prog 221 [GoT.v qB cs1] w r := by
 obtain ⟨p1, k1, p2, k2, p3, k3, rfl, s1, s2, s3⟩ := qaj ha1
 refine qe Tryz.func221 rfl (m := 83) rfl rfl (fun h => ?_)
 rw [qea] at hF
 refine zSR (qP h rfl rfl ?_)
 intro w1 bb1 h
 refine zp1 rfl (zNSR (zp1 rfl (zNSSR (zp1 rfl (zl 0 2 h rfl (zp1 rfl ?_))))))
 refine zp1 rfl (qb ?_)
 obtain ⟨o1, hF, hK1⟩ := qd hF
 refine qw (qR [(1, _), (3, _), (7, _), (8, _), (9, _)] ⟨rfl, rfl, rfl, rfl, rfl, trivial⟩ ?_)
 refine qH (fun m e w' => ∃ (i1 : Int) (i2 : Int), qaN a_0 m i1 i2 = some o1 ∧ e = [(1, .pointer (some ⟨bb1, 0, none⟩)), (3, .int .i64 i1), (7, .slice p1 a_0.Pins.length k1), (8, .int .i64 (a_0.Pins.length : Int)), (9, .int .i64 i2)] ∧ SH w w' [Ch.box bb1 [.string a_0.Name, .int .i64 a_0.Kind, .slice p1 a_0.Pins.length k1, .slice p2 a_0.Arcs.length k2, .slice p3 a_0.Truth.length k3, .int .i64 a_0.Leak, .int .i64 a_0.Energy] 183]) n ⟨_, _, hF, rfl, h⟩ ?_
 rintro m1 e1 w2 ⟨i1, i2, hF, rfl, h⟩
 rcases m1 with _ | m1
 ·rw [qaN] at hF
  cases hF
 rw [qaN] at hF
 refine zSR (zp1 rfl (zNS ?_))
 refine qq rfl hF ?_ ?_ <;> intro hF
 ·refine zKSBSR ?_
  obtain ⟨y1, hy1, hF⟩ := qd hF
  have he1 := qg hy1
  obtain ⟨b1, o_1, q1, cs2, hp1, hq1, -, hr1, hc2⟩ := s1.at hy1
  obtain rfl := qa8 hr1
  refine zxe hp1 hq1 he1 rfl (zc 0 (hc2.below h.below) rfl (qah qc h rfl rfl rfl ?_))
  intro w3 bb2 h
  refine zs 0 h rfl ?_
  intro w4 h
  refine zNSR (zp1 rfl (zl 0 3 h rfl (qb ?_)))
  refine qq rfl hF ?_ ?_ <;> intro hF
  ·refine qz (zp3 rfl (zNER (zp2 rfl (qb ?_))))
   replace h := h.pick [1] rfl
   exact qA m1 [(1, _), (3, _), (7, _), (8, _), (9, _)] (Nat.lt_succ_self m1) ⟨rfl, rfl, rfl, rfl, rfl, trivial⟩ ⟨_, _, hF, rfl, h⟩
  refine zKER (zp2 rfl (qb ?_))
  replace h := h.pick [1] rfl
  exact qA m1 [(1, _), (3, _), (7, _), (8, _), (9, _)] (Nat.lt_succ_self m1) ⟨rfl, rfl, rfl, rfl, rfl, trivial⟩ ⟨_, _, hF, rfl, h⟩
 refine qI rfl ?_
 obtain rfl := qh hF; replace hF := hK1
 refine zSSR (zp1 rfl (zl 0 1 h rfl (qb (zBSR (zp2 rfl (qb ?_))))))
 refine qq rfl hF ?_ ?_ <;> intro hF
 ·refine qbm ?_
  refine qcU rfl (by kernel_rfl) ?_
  refine zd3 rfl ?_
  by_cases hc5 : (i1 == 0) = true
  ·replace hF := bifT hc5 hF
   refine qde hc5 (t := 24) rfl (qi rfl (zd1 rfl (qi rfl ?_)))
   refine zdl 0 4 h rfl ?_
   refine qi rfl (zd1 rfl (qi rfl ?_))
   refine zdl 0 0 h rfl ?_
   refine qi rfl ?_
   obtain ⟨r1, hr2, hF⟩ := qd hF
   refine qcn r1 (vsI _) call163 (fun _ hb => qfZ ((h.ext hb).old ha1) hr2) rfl rfl rfl rfl ?_
   refine qi rfl ?_
   obtain ⟨y2, hx1, hF⟩ := qd hF
   obtain ⟨g1, hx1⟩ := qmI hx1
   refine d_v (fun _ hb => qrr g1 rfl rfl) rfl ?_
   rw [hx1]
   refine qi rfl (zd3 rfl ?_)
   by_cases hc6 : ((a_0.Truth.length : Int) == y2) = true
   ·replace hF := bifT hc6 hF
    refine qde hc6 (t := 33) rfl (qi rfl (zd1 rfl (qi rfl ?_)))
    refine zdl 0 4 h rfl ?_
    refine qi rfl ?_
    obtain ⟨r2, hr3, hF⟩ := qd hF
    refine qcn r2 (vsB _) call112 (fun _ hb => qcL ⟨_, _, rfl, ((h.ext hb).oldS s3)⟩ hr3) rfl rfl rfl rfl ?_
    refine zd2 rfl ?_
    refine qbk (fun w5 hb => ?_)
    replace h := h.ext hb
    clear hb
    exact qv qc h hF ⟨rfl, trivial⟩
   replace hc6 := zb hc6
   replace hF := bifF hc6 hF
   refine qdl hc6 (t := 33) rfl (qj rfl rfl rfl (qj rfl rfl rfl (qj rfl rfl rfl (zd2 rfl ?_))))
   refine qbk (fun w6 hb => ?_)
   replace h := h.ext hb
   clear hb
   exact qv qc h hF ⟨rfl, trivial⟩
  replace hc5 := zb hc5
  replace hF := bifF hc5 hF
  refine qdl hc5 (t := 24) rfl (qj rfl rfl rfl (qj rfl rfl rfl (qj rfl rfl rfl (qj rfl rfl rfl (qj rfl rfl rfl (qj rfl rfl rfl (qj rfl rfl rfl (zd2 rfl (qj rfl rfl rfl (qj rfl rfl rfl ?_))))))))))
  refine qj rfl rfl rfl (zd2 rfl ?_)
  refine qbk (fun w7 hb => ?_)
  replace h := h.ext hb
  clear hb
  exact qv qc h hF ⟨rfl, trivial⟩
 refine zSR (zp2 rfl (qb ?_))
 refine qq rfl hF ?_ ?_ <;> intro hF
 ·refine qbm ?_
  refine qcU rfl (by kernel_rfl) ?_
  refine zd3 rfl ?_
  by_cases hc8 : (i1 == 1) = true
  ·replace hF := bifT hc8 hF
   refine qde hc8 (t := 42) rfl (qi rfl (zd1 rfl (qi rfl ?_)))
   refine zdl 0 4 h rfl ?_
   refine qi rfl (zd1 rfl (qi rfl (zd3 rfl ?_)))
   by_cases hc9 : ((a_0.Truth.length : Int) == 0) = true
   ·replace hF := bifT hc9 hF
    refine qde hc9 (t := 48) rfl (qi rfl ?_)
    refine zdl 0 0 h rfl ?_
    refine qi rfl ?_
    obtain ⟨r3, hr4, hF⟩ := qd hF
    refine qcn r3 (vsB _) call232 (fun _ hb => qdV ((h.ext hb).old ha1) hr4) rfl rfl rfl rfl ?_
    refine qi rfl (zd3 rfl ?_)
    by_cases hc10 : (!r3) = true
    ·replace hF := bifT hc10 hF
     refine qde hc10 (t := 53) rfl (qi rfl ?_)
     refine zdl 0 0 h rfl ?_
     refine qi rfl ?_
     obtain ⟨r4, hr5, hF⟩ := qd hF
     refine qcn r4 (vsB _) call232 (fun _ hb => qdV ((h.ext hb).old ha1) hr5) rfl rfl rfl rfl ?_
     refine qi rfl ?_
     refine zdl 0 0 h rfl ?_
     refine qi rfl ?_
     obtain ⟨r5, hr6, hF⟩ := qd hF
     refine qcn r5 (vsB _) call232 (fun _ hb => qdV ((h.ext hb).old ha1) hr6) rfl rfl rfl rfl ?_
     refine qi rfl (zd3 rfl ?_)
     refine qbk (fun w8 hb => ?_)
     replace h := h.ext hb
     clear hb
     exact qv qc h hF ⟨rfl, trivial⟩
    replace hc10 := zb hc10
    replace hF := bifF hc10 hF
    refine qdl hc10 (t := 53) rfl (qj rfl rfl rfl (qj rfl rfl rfl (qj rfl rfl rfl (qj rfl rfl rfl (qj rfl rfl rfl (zd2 rfl ?_))))))
    refine qbk (fun w9 hb => ?_)
    replace h := h.ext hb
    clear hb
    exact qv qc h hF ⟨rfl, trivial⟩
   replace hc9 := zb hc9
   replace hF := bifF hc9 hF
   refine qdl hc9 (t := 48) rfl (qj rfl rfl rfl (qj rfl rfl rfl (qj rfl rfl rfl (zd2 rfl (qj rfl rfl rfl (qj rfl rfl rfl (qj rfl rfl rfl (qj rfl rfl rfl (qj rfl rfl rfl (zd1 rfl ?_))))))))))
   refine zd1 rfl ?_
   refine qbk (fun w10 hb => ?_)
   replace h := h.ext hb
   clear hb
   exact qv qc h hF ⟨rfl, trivial⟩
  replace hc8 := zb hc8
  replace hF := bifF hc8 hF
  refine qdl hc8 (t := 42) rfl (qj rfl rfl rfl (qj rfl rfl rfl (qj rfl rfl rfl (qj rfl rfl rfl (zd2 rfl (qj rfl rfl rfl (qj rfl rfl rfl (qj rfl rfl rfl (zd2 rfl ?_)))))))))
  refine qj rfl rfl rfl (qj rfl rfl rfl (qj rfl rfl rfl (qj rfl rfl rfl (qj rfl rfl rfl (zd2 rfl ?_)))))
  refine qbk (fun w11 hb => ?_)
  replace h := h.ext hb
  clear hb
  exact qv qc h hF ⟨rfl, trivial⟩
 refine zSR (zp2 rfl (qb ?_))
 refine qq rfl hF ?_ ?_ <;> intro hF
 ·refine zSR (zp3 rfl ?_)
  by_cases hc12 : (i1 == 1) = true
  ·replace hF := bifT hc12 hF
   refine qF hc12 (t := 64) rfl (qa rfl (zp1 rfl (qa rfl (zl 0 4 h rfl (qa rfl (zp1 rfl (qa rfl (zp3 rfl ?_))))))))
   by_cases hc13 : ((a_0.Truth.length : Int) == 0) = true
   ·replace hF := bifT hc13 hF
    refine qF hc13 (t := 70) rfl (qa rfl (zl 0 0 h rfl (qa rfl ?_)))
    obtain ⟨r6, hr7, hF⟩ := qd hF
    refine qp r6 h call232 (qdV (h.old ha1) hr7) rfl rfl rfl rfl ?_
    intro w12 h
    refine zp2 rfl ?_
    by_cases hc14 : r6 = true
    ·replace hF := bifT hc14 hF
     refine qF hc14 (t := 74) rfl (qa rfl (zl 0 0 h rfl (qa rfl ?_)))
     obtain ⟨r7, hr8, hF⟩ := qd hF
     refine qp r7 h call232 (qdV (h.old ha1) hr8) rfl rfl rfl rfl ?_
     intro w13 h
     refine zp2 rfl ?_
     by_cases hc15 : r7 = true
     ·replace hF := bifT hc15 hF
      refine qF hc15 (t := 78) rfl (qa rfl (zl 0 0 h rfl (qa rfl ?_)))
      obtain ⟨r8, hr9, hF⟩ := qd hF
      refine qp r8 h call232 (qdV (h.old ha1) hr9) rfl rfl rfl rfl ?_
      intro w14 h
      exact qa rfl (zp3 rfl (qb (qv qc h hF ⟨rfl, trivial⟩)))
     replace hc15 := zb hc15
     replace hF := bifF hc15 hF
     exact qE hc15 (t := 78) rfl (zn3 rfl (zp2 rfl (qb (qv qc h hF ⟨rfl, trivial⟩))))
    replace hc14 := zb hc14
    replace hF := bifF hc14 hF
    exact qE hc14 (t := 74) rfl (zn2 rfl (zp2 rfl (zn3 rfl (zp2 rfl (qb (qv qc h hF ⟨rfl, trivial⟩))))))
   replace hc13 := zb hc13
   replace hF := bifF hc13 hF
   refine qE hc13 (t := 70) rfl (zn2 rfl (zp2 rfl (zn2 rfl (zp2 rfl (zn3 rfl ?_)))))
   exact zp2 rfl (qb (qv qc h hF ⟨rfl, trivial⟩))
  replace hc12 := zb hc12
  replace hF := bifF hc12 hF
  refine qE hc12 (t := 64) rfl (zn4 rfl (zp2 rfl (zn2 rfl (zp2 rfl (zn1 rfl ?_)))))
  exact zn1 rfl (zp2 rfl (zn3 rfl (zp2 rfl (qb (qv qc h hF ⟨rfl, trivial⟩)))))
 exact zKE (zSR (zp1 rfl (qb (qv qc h hF ⟨rfl, trivial⟩))))

def qhM (n : Nat) (c : qB) : Option Bool :=
 (qgn n c.Name).bind fun r1 =>
 bif r1 then
  (qgN n c.Pins).bind fun r2 =>
  bif r2 then
   (qeC n c).bind fun r3 =>
   bif r3 then
    (qaI n c.Leak 0 100000).bind fun r4 =>
    bif r4 then
     (qaI n c.Energy 0 100000).bind fun r5 =>
     bif r5 then
      (qea n c).bind fun r6 =>
      some r6
     else
      some false
    else
     some false
   else
    some false
  else
   some false
 else
  some false

theorem qlH {n : Nat} {w : World} {c : qB} {cs1 : List Value} (ha1 : GoT.R w (old w) c cs1) {r : Bool} (hF : qhM n c = some r) : RetV Tryz.prog 204 [GoT.v qB cs1] w r := by
 obtain ⟨p1, k1, p2, k2, p3, k3, rfl, s1, s2, s3⟩ := qaj ha1
 refine qe Tryz.func204 rfl (m := 29) rfl rfl (fun h => ?_)
 rw [qhM] at hF
 refine zSR (qP h rfl rfl ?_)
 intro w1 bb1 h
 refine zp1 rfl (zNSR (zp1 rfl (zl 0 0 h rfl ?_)))
 obtain ⟨r1, hr1, hF⟩ := qd hF
 refine qp r1 h call218 (qjg hr1) rfl rfl rfl rfl ?_
 intro w2 h
 refine zp1 rfl ?_
 by_cases hc1 : r1 = true
 ·replace hF := bifT hc1 hF
  refine qF hc1 (t := 6) rfl (qa rfl (zp1 rfl (qa rfl (zl 0 2 h rfl (qa rfl ?_)))))
  obtain ⟨r2, hr2, hF⟩ := qd hF
  refine qp r2 h call219 (qlg ⟨_, _, rfl, (h.oldS s1)⟩ hr2) rfl rfl rfl rfl ?_
  intro w3 h
  refine zp2 rfl ?_
  by_cases hc2 : r2 = true
  ·replace hF := bifT hc2 hF
   refine qF hc2 (t := 11) rfl (qa rfl (zl 0 0 h rfl (qa rfl ?_)))
   obtain ⟨r3, hr3, hF⟩ := qd hF
   refine qp r3 h call220 (qjm (h.old ha1) hr3) rfl rfl rfl rfl ?_
   intro w4 h
   refine zp2 rfl ?_
   by_cases hc3 : r3 = true
   ·replace hF := bifT hc3 hF
    refine qF hc3 (t := 15) rfl (qa rfl (zp1 rfl (qa rfl (zl 0 5 h rfl (qa rfl ?_)))))
    obtain ⟨r4, hr4, hF⟩ := qd hF
    refine qp r4 h call86 (qap hr4) rfl rfl rfl rfl ?_
    intro w5 h
    refine zp2 rfl ?_
    by_cases hc4 : r4 = true
    ·replace hF := bifT hc4 hF
     refine qF hc4 (t := 20) rfl (qa rfl (zp1 rfl (qa rfl (zl 0 6 h rfl (qa rfl ?_)))))
     obtain ⟨r5, hr5, hF⟩ := qd hF
     refine qp r5 h call86 (qap hr5) rfl rfl rfl rfl ?_
     intro w6 h
     refine zp2 rfl ?_
     by_cases hc5 : r5 = true
     ·replace hF := bifT hc5 hF
      refine qF hc5 (t := 25) rfl (qa rfl (zl 0 0 h rfl (qa rfl ?_)))
      obtain ⟨r6, hr6, hF⟩ := qd hF
      refine qp r6 h call221 (qi3 (h.old ha1) hr6) rfl rfl rfl rfl ?_
      intro w7 h
      exact zp2 rfl (qb (qv qc h hF ⟨rfl, trivial⟩))
     replace hc5 := zb hc5
     replace hF := bifF hc5 hF
     exact qE hc5 (t := 25) rfl (zn2 rfl (zp2 rfl (qb (qv qc h hF ⟨rfl, trivial⟩))))
    replace hc4 := zb hc4
    replace hF := bifF hc4 hF
    exact qE hc4 (t := 20) rfl (zn3 rfl (zp2 rfl (zn2 rfl (zp2 rfl (qb (qv qc h hF ⟨rfl, trivial⟩))))))
   replace hc3 := zb hc3
   replace hF := bifF hc3 hF
   refine qE hc3 (t := 15) rfl (zn3 rfl (zp2 rfl (zn3 rfl (zp2 rfl (zn1 rfl ?_)))))
   exact zn1 rfl (zp2 rfl (qb (qv qc h hF ⟨rfl, trivial⟩)))
  replace hc2 := zb hc2
  replace hF := bifF hc2 hF
  refine qE hc2 (t := 11) rfl (zn2 rfl (zp2 rfl (zn3 rfl (zp2 rfl (zn2 rfl ?_)))))
  exact zn1 rfl (zp2 rfl (zn2 rfl (zp2 rfl (qb (qv qc h hF ⟨rfl, trivial⟩)))))
 replace hc1 := zb hc1
 replace hF := bifF hc1 hF
 refine qE hc1 (t := 6) rfl (zn3 rfl (zp2 rfl (zn2 rfl (zp2 rfl (zn2 rfl ?_)))))
 refine zn1 rfl (zp2 rfl (zn3 rfl (zp2 rfl (zn2 rfl (zp2 rfl ?_)))))
 exact qb (qv qc h hF ⟨rfl, trivial⟩)

def qbL (l : qx) : Nat → (List ByteArray) → Int → Option (Flow Bool ((List ByteArray) × Int))
 | 0, _, _ => none
 | n + 1, x1, i1 =>
  bif decide (i1 < (l.Cells.length : Int)) then
   (idx l.Cells i1).bind fun y1 =>
   (qhM n y1).bind fun r1 =>
   bif (!r1) then
    some (.ret false)
   else
    (appS x1 ([y1.Name] : List ByteArray)).bind fun x2 =>
    qbL l n x2 (W64 (i1 + 1))
  else
   some (.nxt (x1, i1))

def qfH (n : Nat) (l : qx) : Option Bool :=
 (qbL l n ([] : List ByteArray) 0).bind fun o => match o with
 | .ret r => some r
 | .nxt (x1, _) =>
  bif decide ((l.Cells.length : Int) ≤ 8) then
   (qdo n x1).bind fun r2 =>
   some r2
  else
   some false

theorem qkt {n : Nat} {w : World} {l : qx} {cs1 : List Value} (ha1 : GoT.R w (old w) l cs1) {r : Bool} (hF : qfH n l = some r) : RetV Tryz.prog 179 [GoT.v qx cs1] w r := by
 obtain ⟨p1, k1, rfl, s1⟩ := qbW ha1
 refine qe Tryz.func179 rfl (m := 30) rfl rfl (fun h => ?_)
 rw [qfH] at hF
 refine zSR (qP h rfl rfl ?_)
 intro w1 bb1 h
 refine zp1 rfl (zNSR (zp1 rfl (zNSSR (zp1 rfl (zl 0 0 h rfl (zp1 rfl ?_))))))
 refine zp1 rfl (qb ?_)
 replace h := h.nil (α := ByteArray)
 obtain ⟨o1, hF, hK1⟩ := qd hF
 refine qw (qR [(1, _), (3, _), (7, _), (8, _), (9, _)] ⟨rfl, rfl, rfl, rfl, rfl, trivial⟩ ?_)
 refine qH (fun m e w' => ∃ (S1 : Nat → Prop) (p2 : Option Addr) (ln1 : Nat) (k2 : Nat) (x1 : (List ByteArray)) (i1 : Int), qbL l m x1 i1 = some o1 ∧ e = [(1, .pointer (some ⟨bb1, 0, none⟩)), (3, .slice p2 ln1 k2), (7, .slice p1 l.Cells.length k1), (8, .int .i64 (l.Cells.length : Int)), (9, .int .i64 i1)] ∧ SH w w' [Ch.own S1 (x1 : List ByteArray) [.slice p2 ln1 k2], Ch.box bb1 [.slice p1 l.Cells.length k1] 43]) n ⟨_, _, _, _, _, _, hF, rfl, h⟩ ?_
 rintro m1 e1 w2 ⟨S1, p2, ln1, k2, x1, i1, hF, rfl, h⟩
 obtain rfl := (h.sl 0 rfl).2
 rcases m1 with _ | m1
 ·rw [qbL] at hF
  cases hF
 rw [qbL] at hF
 refine zSR (zp1 rfl (zNS ?_))
 refine qq rfl hF ?_ ?_ <;> intro hF
 ·refine zKSBSR ?_
  obtain ⟨y1, hy1, hF⟩ := qd hF
  have he1 := qg hy1
  obtain ⟨b1, o_1, q1, cs2, hp1, hq1, -, hr1, hc2⟩ := s1.at hy1
  obtain ⟨p3, k3, p4, k4, p5, k5, rfl, s2, s3, s4⟩ := qaj hr1
  refine zxe hp1 hq1 he1 rfl (zc 0 (hc2.below h.below) rfl (qah qc h rfl rfl rfl ?_))
  intro w3 bb2 h
  refine zs 0 h rfl ?_
  intro w4 h
  replace h : SH _ _ [Ch.box bb2 [.string y1.Name, .int .i64 y1.Kind, .slice p3 y1.Pins.length k3, .slice p4 y1.Arcs.length k4, .slice p5 y1.Truth.length k5, .int .i64 y1.Leak, .int .i64 y1.Energy] 183, Ch.own S1 (x1 : List ByteArray) [.slice p2 x1.length k2], Ch.box bb1 [.slice p1 l.Cells.length k1] 43] := h
  refine zNSSR (zl 0 0 h rfl ?_)
  obtain ⟨r1, hr2, hF⟩ := qd hF
  refine qp r1 h call204 (qlH (qhZ y1 (h.oldS s2) (h.oldS s3) (h.oldS s4)) hr2) rfl rfl rfl rfl ?_
  intro w5 h
  refine zp1 rfl (qb ?_)
  refine qq rfl hF ?_ ?_ <;> intro hF
  ·refine zSR (zp1 rfl (qb ?_))
   obtain rfl := qh hF; replace hF := hK1
   exact qv qc h hF ⟨rfl, trivial⟩
  refine qdO (qz (zp2 rfl (zl 0 0 h rfl (qaY qc [.tmp 18] _ ([y1.Name] : List ByteArray) h rfl rfl rfl rfl rfl rfl rfl rfl rfl ⟨rfl, trivial⟩ rfl ?_))))
  intro w6 p6 S2 h
  obtain ⟨x2, hx1, hF⟩ := qd hF
  obtain ⟨g1, hx1⟩ := qbt hx1
  refine qeW qc 2 h rfl (h.sl 0 rfl).1 (h.sl 0 rfl).2 rfl rfl rfl rfl rfl rfl rfl rfl rfl g1 hx1 rfl ?_
  intro w7 p7 k6 S3 h
  refine zp1 rfl (zNER (zp2 rfl (qb ?_)))
  replace h := h.pick [2, 3] rfl
  exact qA m1 [(1, _), (3, _), (7, _), (8, _), (9, _)] (Nat.lt_succ_self m1) ⟨rfl, rfl, rfl, rfl, rfl, trivial⟩ ⟨_, _, _, _, _, _, hF, rfl, h⟩
 refine qI rfl ?_
 obtain rfl := qh hF; replace hF := hK1
 refine zSR (zp1 rfl (zl 1 0 h rfl (zp3 rfl ?_)))
 by_cases hc4 : (decide ((l.Cells.length : Int) ≤ 8)) = true
 ·replace hF := bifT hc4 hF
  refine qF hc4 (t := 26) rfl (qa rfl (zp1 rfl (qa rfl ?_)))
  obtain ⟨r2, hr3, hF⟩ := qd hF
  refine qp r2 h call205 (qeV (h.own 0 rfl) hr3) rfl rfl rfl rfl ?_
  intro w8 h
  exact zp2 rfl (qb (qv qc h hF ⟨rfl, trivial⟩))
 replace hc4 := zb hc4
 replace hF := bifF hc4 hF
 exact qE hc4 (t := 26) rfl (zn2 rfl (zp2 rfl (qb (qv qc h hF ⟨rfl, trivial⟩))))

def qaM (d : ql) : Nat → (List ByteArray) → Int → Option ((List ByteArray) × Int)
 | 0, _, _ => none
 | n + 1, x3, i2 =>
  bif decide (i2 < (d.Ports.length : Int)) then
   (idx d.Ports i2).bind fun y2 =>
   (appS x3 ([y2.Name] : List ByteArray)).bind fun x4 =>
   qaM d n x4 (W64 (i2 + 1))
  else
   some (x3, i2)

def qaL (d : ql) : Nat → (List ByteArray) → Int → Option ((List ByteArray) × Int)
 | 0, _, _ => none
 | n + 1, x1, i1 =>
  bif decide (i1 < (d.Instances.length : Int)) then
   (idx d.Instances i1).bind fun y1 =>
   (appS x1 ([y1.Name] : List ByteArray)).bind fun x2 =>
   qaL d n x2 (W64 (i1 + 1))
  else
   some (x1, i1)

def qdy (n : Nat) (d : ql) : Option Bool :=
 (qaL d n ([] : List ByteArray) 0).bind fun o => match o with
 | (x1, _) =>
  (qaM d n ([] : List ByteArray) 0).bind fun o => match o with
  | (x3, _) =>
   bif decide ((x1.length : Int) ≤ 14) then
    bif decide ((d.Nets.length : Int) ≤ 30) then
     bif decide ((x3.length : Int) ≤ 8) then
      (qdo n x1).bind fun r1 =>
      bif r1 then
       (qdo n d.Nets).bind fun r2 =>
       bif r2 then
        (qdo n x3).bind fun r3 =>
        some r3
       else
        some false
      else
       some false
     else
      some false
    else
     some false
   else
    some false

theorem qiw {n : Nat} {w : World} {d : ql} {cs1 : List Value} (ha1 : GoT.R w (old w) d cs1) {r : Bool} (hF : qdy n d = some r) : RetV Tryz.prog 180 [GoT.v ql cs1] w r := by
 obtain ⟨p1, k1, p2, k2, p3, k3, rfl, s1, s2, s3⟩ := qaS ha1
 refine qe Tryz.func180 rfl (m := 62) rfl rfl (fun h => ?_)
 rw [qdy] at hF
 refine zSR (qP h rfl rfl ?_)
 intro w1 bb1 h
 refine zp1 rfl (zNSR (zp2 rfl (zNSSR (zp1 rfl (zl 0 0 h rfl ?_)))))
 refine zp2 rfl (qb ?_)
 replace h := h.nil (α := ByteArray)
 obtain ⟨o1, hF, hK1⟩ := qd hF
 refine qw (qR [(1, _), (3, _), (4, _), (10, _), (11, _), (12, _)] ⟨rfl, rfl, rfl, rfl, rfl, rfl, trivial⟩ ?_)
 refine qH (fun m e w' => ∃ (S1 : Nat → Prop) (p4 : Option Addr) (ln1 : Nat) (k4 : Nat) (x1 : (List ByteArray)) (i1 : Int), qaL d m x1 i1 = some o1 ∧ e = [(1, .pointer (some ⟨bb1, 0, none⟩)), (3, .slice p4 ln1 k4), (4, .slice none 0 0), (10, .slice p1 d.Instances.length k1), (11, .int .i64 (d.Instances.length : Int)), (12, .int .i64 i1)] ∧ SH w w' [Ch.own S1 (x1 : List ByteArray) [.slice p4 ln1 k4], Ch.box bb1 [.slice p1 d.Instances.length k1, .slice p2 d.Nets.length k2, .slice p3 d.Ports.length k3] 47]) n ⟨_, _, _, _, _, _, hF, rfl, h⟩ ?_
 rintro m1 e1 w2 ⟨S1, p4, ln1, k4, x1, i1, hF, rfl, h⟩
 obtain rfl := (h.sl 0 rfl).2
 rcases m1 with _ | m1
 ·rw [qaL] at hF
  cases hF
 rw [qaL] at hF
 refine zSR (zp1 rfl (zNS ?_))
 refine qq rfl hF ?_ ?_ <;> intro hF
 ·refine zKSBSR ?_
  obtain ⟨y1, hy1, hF⟩ := qd hF
  have he1 := qg hy1
  obtain ⟨b1, o_1, q1, cs2, hp1, hq1, -, hr1, hc2⟩ := s1.at hy1
  obtain ⟨p5, k5, rfl, s4⟩ := qae hr1
  refine zxe hp1 hq1 he1 rfl (zc 0 (hc2.below h.below) rfl (qah qc h rfl rfl rfl ?_))
  intro w3 bb2 h
  refine zs 0 h rfl ?_
  intro w4 h
  replace h : SH _ _ [Ch.box bb2 [.string y1.Name, .int .i64 y1.Cell, .slice p5 y1.Nets.length k5] 185, Ch.own S1 (x1 : List ByteArray) [.slice p4 x1.length k4], Ch.box bb1 [.slice p1 d.Instances.length k1, .slice p2 d.Nets.length k2, .slice p3 d.Ports.length k3] 47] := h
  refine qb (qz (zp2 rfl (zl 0 0 h rfl (qaY qc [.tmp 18] _ ([y1.Name] : List ByteArray) h rfl rfl rfl rfl rfl rfl rfl rfl rfl ⟨rfl, trivial⟩ rfl ?_))))
  intro w5 p6 S2 h
  obtain ⟨x2, hx1, hF⟩ := qd hF
  obtain ⟨g1, hx1⟩ := qbt hx1
  refine qeW qc 2 h rfl (h.sl 0 rfl).1 (h.sl 0 rfl).2 rfl rfl rfl rfl rfl rfl rfl rfl rfl g1 hx1 rfl ?_
  intro w6 p7 k6 S3 h
  refine zp1 rfl (zNER (zp2 rfl (qb ?_)))
  replace h := h.pick [2, 3] rfl
  exact qA m1 [(1, _), (3, _), (4, _), (10, _), (11, _), (12, _)] (Nat.lt_succ_self m1) ⟨rfl, rfl, rfl, rfl, rfl, rfl, trivial⟩ ⟨_, _, _, _, _, _, hF, rfl, h⟩
 refine qI rfl ?_
 obtain rfl := qh hF; replace hF := hK1
 refine zSSR (zp1 rfl (zl 1 2 h rfl (zp2 rfl (qb ?_))))
 replace h := h.nil (α := ByteArray)
 obtain ⟨o2, hF, hK2⟩ := qd hF
 refine qw (qR [(1, _), (3, _), (4, _), (23, _), (24, _), (25, _)] ⟨rfl, rfl, rfl, rfl, rfl, rfl, trivial⟩ ?_)
 refine qH (fun m e w' => ∃ (S4 : Nat → Prop) (p8 : Option Addr) (ln2 : Nat) (k7 : Nat) (x3 : (List ByteArray)) (i2 : Int), qaM d m x3 i2 = some o2 ∧ e = [(1, .pointer (some ⟨bb1, 0, none⟩)), (3, .slice p4 x1.length k4), (4, .slice p8 ln2 k7), (23, .slice p3 d.Ports.length k3), (24, .int .i64 (d.Ports.length : Int)), (25, .int .i64 i2)] ∧ SH w w' [Ch.own S4 (x3 : List ByteArray) [.slice p8 ln2 k7], Ch.own S1 (x1 : List ByteArray) [.slice p4 x1.length k4], Ch.box bb1 [.slice p1 d.Instances.length k1, .slice p2 d.Nets.length k2, .slice p3 d.Ports.length k3] 47]) n ⟨_, _, _, _, _, _, hF, rfl, h⟩ ?_
 rintro m2 e2 w7 ⟨S4, p8, ln2, k7, x3, i2, hF, rfl, h⟩
 obtain rfl := (h.sl 0 rfl).2
 rcases m2 with _ | m2
 ·rw [qaM] at hF
  cases hF
 rw [qaM] at hF
 refine zSR (zp1 rfl (zNS ?_))
 refine qq rfl hF ?_ ?_ <;> intro hF
 ·refine zKSBSR ?_
  obtain ⟨y2, hy2, hF⟩ := qd hF
  have he2 := qg hy2
  obtain ⟨b2, o_2, q2, cs3, hp2, hq2, -, hr2, hc4⟩ := s3.at hy2
  obtain rfl := qaX hr2
  refine zxe hp2 hq2 he2 rfl (zc 0 (hc4.below h.below) rfl (qah qc h rfl rfl rfl ?_))
  intro w8 bb3 h
  refine zs 0 h rfl ?_
  intro w9 h
  replace h : SH _ _ [Ch.box bb3 [.string y2.Name, .int .i64 y2.Dir, .int .i64 y2.Net] 187, Ch.own S4 (x3 : List ByteArray) [.slice p8 x3.length k7], Ch.own S1 (x1 : List ByteArray) [.slice p4 x1.length k4], Ch.box bb1 [.slice p1 d.Instances.length k1, .slice p2 d.Nets.length k2, .slice p3 d.Ports.length k3] 47] := h
  refine qb (qz (zp2 rfl (zl 0 0 h rfl (qaY qc [.tmp 31] _ ([y2.Name] : List ByteArray) h rfl rfl rfl rfl rfl rfl rfl rfl rfl ⟨rfl, trivial⟩ rfl ?_))))
  intro w10 p9 S5 h
  obtain ⟨x4, hx2, hF⟩ := qd hF
  obtain ⟨g2, hx2⟩ := qbt hx2
  refine qeW qc 2 h rfl (h.sl 0 rfl).1 (h.sl 0 rfl).2 rfl rfl rfl rfl rfl rfl rfl rfl rfl g2 hx2 rfl ?_
  intro w11 p10 k8 S6 h
  refine zp1 rfl (zNER (zp2 rfl (qb ?_)))
  replace h := h.pick [2, 3, 4] rfl
  exact qA m2 [(1, _), (3, _), (4, _), (23, _), (24, _), (25, _)] (Nat.lt_succ_self m2) ⟨rfl, rfl, rfl, rfl, rfl, rfl, trivial⟩ ⟨_, _, _, _, _, _, hF, rfl, h⟩
 refine qI rfl ?_
 obtain rfl := qh hF; replace hF := hK2
 refine zSR (zp4 rfl ?_)
 by_cases hc5 : (decide ((x1.length : Int) ≤ 14)) = true
 ·replace hF := bifT hc5 hF
  refine qF hc5 (t := 38) rfl (qa rfl (zp1 rfl (qa rfl (zl 2 1 h rfl (qa rfl (zp1 rfl (qa rfl (zp3 rfl ?_))))))))
  by_cases hc6 : (decide ((d.Nets.length : Int) ≤ 30)) = true
  ·replace hF := bifT hc6 hF
   refine qF hc6 (t := 44) rfl (qa rfl (zp1 rfl (qa rfl (zp1 rfl (qa rfl (zp3 rfl ?_))))))
   by_cases hc7 : (decide ((x3.length : Int) ≤ 8)) = true
   ·replace hF := bifT hc7 hF
    refine qF hc7 (t := 49) rfl (qa rfl (zp1 rfl (qa rfl ?_)))
    obtain ⟨r1, hr3, hF⟩ := qd hF
    refine qp r1 h call205 (qeV (h.own 1 rfl) hr3) rfl rfl rfl rfl ?_
    intro w12 h
    refine zp2 rfl ?_
    by_cases hc8 : r1 = true
    ·replace hF := bifT hc8 hF
     refine qF hc8 (t := 53) rfl (qa rfl (zp1 rfl (qa rfl (zl 2 1 h rfl (qa rfl ?_)))))
     obtain ⟨r2, hr4, hF⟩ := qd hF
     refine qp r2 h call205 (qeV ⟨_, _, rfl, (h.oldS s2)⟩ hr4) rfl rfl rfl rfl ?_
     intro w13 h
     refine zp2 rfl ?_
     by_cases hc9 : r2 = true
     ·replace hF := bifT hc9 hF
      refine qF hc9 (t := 58) rfl (qa rfl (zp1 rfl (qa rfl ?_)))
      obtain ⟨r3, hr5, hF⟩ := qd hF
      refine qp r3 h call205 (qeV (h.own 0 rfl) hr5) rfl rfl rfl rfl ?_
      intro w14 h
      exact zp2 rfl (qb (qv qc h hF ⟨rfl, trivial⟩))
     replace hc9 := zb hc9
     replace hF := bifF hc9 hF
     exact qE hc9 (t := 58) rfl (zn2 rfl (zp2 rfl (qb (qv qc h hF ⟨rfl, trivial⟩))))
    replace hc8 := zb hc8
    replace hF := bifF hc8 hF
    exact qE hc8 (t := 53) rfl (zn3 rfl (zp2 rfl (zn2 rfl (zp2 rfl (qb (qv qc h hF ⟨rfl, trivial⟩))))))
   replace hc7 := zb hc7
   replace hF := bifF hc7 hF
   refine qE hc7 (t := 49) rfl (zn2 rfl (zp2 rfl (zn3 rfl (zp2 rfl (zn2 rfl ?_)))))
   exact zp2 rfl (qb (qv qc h hF ⟨rfl, trivial⟩))
  replace hc6 := zb hc6
  replace hF := bifF hc6 hF
  refine qE hc6 (t := 44) rfl (zn3 rfl (zp2 rfl (zn2 rfl (zp2 rfl (zn2 rfl ?_)))))
  exact zn1 rfl (zp2 rfl (zn2 rfl (zp2 rfl (qb (qv qc h hF ⟨rfl, trivial⟩)))))
 replace hc5 := zb hc5
 replace hF := bifF hc5 hF
 refine qE hc5 (t := 38) rfl (zn4 rfl (zp2 rfl (zn3 rfl (zp2 rfl ?_))))
 refine zn2 rfl (zp2 rfl (zn3 rfl (zp2 rfl (zn2 rfl (zp1 rfl ?_)))))
 exact zp1 rfl (qb (qv qc h hF ⟨rfl, trivial⟩))

def qej (_ : Nat) (list : (List qB)) : Option Int :=
 some (list.length : Int)

theorem qip {n : Nat} {w : World} {list : (List qB)} {cs1 : List Value} (ha1 : GoT.R w (old w) list cs1) {r : Int} (hF : qej n list = some r) : RetV Tryz.prog 206 [GoT.v (List qB) cs1] w r := by
 obtain ⟨p1, k1, rfl, s1⟩ := ha1
 refine qe Tryz.func206 rfl (m := 5) rfl rfl (fun h => ?_)
 rw [qej] at hF
 exact zSR (zp1 rfl (zNSR (zp3 rfl (qb (qaF qc h hF ⟨rfl, trivial⟩)))))

def qfb (_ : Nat) (list : (List ByteArray)) : Option Int :=
 some (list.length : Int)

theorem qi2 {n : Nat} {w : World} {list : (List ByteArray)} {cs1 : List Value} (ha1 : GoT.R w (old w) list cs1) {r : Int} (hF : qfb n list = some r) : RetV Tryz.prog 208 [GoT.v (List ByteArray) cs1] w r := by
 obtain ⟨p1, k1, rfl, s1⟩ := ha1
 refine qe Tryz.func208 rfl (m := 5) rfl rfl (fun h => ?_)
 rw [qfb] at hF
 exact zSR (zp1 rfl (zNSR (zp3 rfl (qb (qaF qc h hF ⟨rfl, trivial⟩)))))

def qcN (n : Nat) (d : ql) (net : Int) : Option Bool :=
 (qfb n d.Nets).bind fun r1 =>
 (qaI n net 0 (W64 (r1 - 1))).bind fun r2 =>
 some r2

theorem qfz {n : Nat} {w : World} {d : ql} {net : Int} {cs1 : List Value} (ha1 : GoT.R w (old w) d cs1) {r : Bool} (hF : qcN n d net = some r) : RetV Tryz.prog 182 [GoT.v ql cs1, .int .i64 net] w r := by
 obtain ⟨p1, k1, p2, k2, p3, k3, rfl, s1, s2, s3⟩ := qaS ha1
 refine qe Tryz.func182 rfl (m := 11) rfl rfl (fun h => ?_)
 rw [qcN] at hF
 refine zSR (qP h rfl rfl ?_)
 intro w1 bb1 h
 refine zp1 rfl (zNSR (zp2 rfl (zl 0 1 h rfl ?_)))
 obtain ⟨r1, hr1, hF⟩ := qd hF
 refine qU r1 h call208 (qi2 ⟨_, _, rfl, (h.oldS s2)⟩ hr1) rfl rfl rfl rfl ?_
 intro w2 h
 refine zp1 rfl ?_
 obtain ⟨r2, hr2, hF⟩ := qd hF
 refine qp r2 h call86 (qap hr2) rfl rfl rfl rfl ?_
 intro w3 h
 exact zp1 rfl (qb (qv qc h hF ⟨rfl, trivial⟩))

def qco (n : Nat) (net : Int) (v0 : ql) : Option Bool :=
 (qcN n v0 net).bind fun r1 =>
 some (!r1)

theorem qhY {n : Nat} {w : World} {net : Int} {v0 : ql} {p1 : Option Addr} (ha1 : GoT.R w (old w) (some v0) [.pointer p1]) {r : Bool} (hF : qco n net v0 = some r) : RetV Tryz.prog 207 [.int .i64 net, .pointer p1] w r := by
 obtain ⟨b1, o_1, cs1, rfl, -, hr1, hc1⟩ := PtR.get ha1 rfl
 obtain ⟨p2, k1, p3, k2, p4, k3, rfl, s1, s2, s3⟩ := qaS hr1
 refine qe Tryz.func207 rfl (m := 8) rfl rfl (fun h => ?_)
 rw [qco] at hF
 refine zSR (zp1 rfl (zNSR (zc 0 (hc1.below h.below) rfl (zp1 rfl ?_))))
 obtain ⟨r1, hr2, hF⟩ := qd hF
 refine qp r1 h call182 (qfz (qck v0 (h.oldS s1) (h.oldS s2) (h.oldS s3)) hr2) rfl rfl rfl rfl ?_
 intro w1 h
 exact zp2 rfl (qb (qv qc h hF ⟨rfl, trivial⟩))

def qJ (s : (List Int)) (f_0 : ql) : Nat → Int → Option (Flow Int Int)
 | 0, _ => none
 | n + 1, i1 =>
  bif decide (i1 < (s.length : Int)) then
   (idx s i1).bind fun y1 =>
   (qco n y1 f_0).bind fun r1 =>
   bif r1 then
    some (.ret i1)
   else
    qJ s f_0 n (W64 (i1 + 1))
  else
   some (.nxt i1)

def qaB (n : Nat) (s : (List Int)) (f_0 : ql) : Option Int :=
 (qJ s f_0 n 0).bind fun o => match o with
 | .ret r => some r
 | .nxt _ =>
  some (-1)

theorem qd9 {n : Nat} {w : World} {s : (List Int)} {f_0 : ql} {cs1 : List Value} (ha1 : GoT.R w (old w) s cs1) {p2 : Option Addr} (ha2 : GoT.R w (old w) (some f_0) [.pointer p2]) {r : Int} (hF : qaB n s f_0 = some r) : RetV Tryz.prog 190 [GoT.v (List Int) cs1, .func (.func 207) #[] #[.pointer p2]] w r := by
 obtain ⟨p1, k1, rfl, s1⟩ := ha1
 obtain ⟨b1, o_1, cs2, rfl, -, hr1, hc1⟩ := PtR.get ha2 rfl
 obtain ⟨p3, k2, p4, k3, p5, k4, rfl, s2, s3, s4⟩ := qaS hr1
 refine qe Tryz.func190 rfl (m := 19) rfl rfl (fun h => ?_)
 rw [qaB] at hF
 refine zSR (zp1 rfl (zNSSR (zp3 rfl (qb ?_))))
 obtain ⟨o1, hF, hK1⟩ := qd hF
 refine qw (qR [(0, _), (1, _), (7, _), (8, _)] ⟨rfl, rfl, rfl, rfl, trivial⟩ ?_)
 refine qH (fun m e w' => ∃ (i1 : Int), qJ s f_0 m i1 = some o1 ∧ e = [(0, .slice p1 s.length k1), (1, .func (.func 207) #[] #[.pointer (some ⟨b1, o_1, none⟩)]), (7, .int .i64 (s.length : Int)), (8, .int .i64 i1)] ∧ SH w w' []) n ⟨_, hF, rfl, h⟩ ?_
 rintro m1 e1 w1 ⟨i1, hF, rfl, h⟩
 rcases m1 with _ | m1
 ·rw [qJ] at hF
  cases hF
 rw [qJ] at hF
 refine zSR (zp1 rfl (zNS ?_))
 refine qq rfl hF ?_ ?_ <;> intro hF
 ·refine zKSBSR (zp2 rfl (zNSR (zp2 rfl ?_)))
  refine zp1 rfl ?_
  obtain ⟨y1, hy1, hF⟩ := qd hF
  have he1 := qg hy1
  obtain ⟨b2, o_2, q1, cs3, hp1, hq1, -, hr2, hc3⟩ := s1.at hy1
  obtain rfl := hr2
  refine zxe hp1 hq1 he1 rfl (zc 0 (hc3.below h.below) rfl ?_)
  obtain ⟨r1, hr3, hF⟩ := qd hF
  refine qp r1 h call207 (qhY (h.old ha2) hr3) rfl rfl rfl rfl ?_
  intro w2 h
  refine qb ?_
  refine qq rfl hF ?_ ?_ <;> intro hF
  ·refine zSR (zp2 rfl (qb ?_))
   obtain rfl := qh hF; replace hF := hK1
   exact qaF qc h hF ⟨rfl, trivial⟩
  exact zKER (zp2 rfl (qb (qA m1 [(0, _), (1, _), (7, _), (8, _)] (Nat.lt_succ_self m1) ⟨rfl, rfl, rfl, rfl, trivial⟩ ⟨_, hF, rfl, h⟩)))
 refine qI rfl ?_
 obtain rfl := qh hF; replace hF := hK1
 exact zSR (zp1 rfl (qb (qaF qc h hF ⟨rfl, trivial⟩)))

def qaq (n : Nat) (s : (List Int)) (f_0 : ql) : Option Bool :=
 (qaB n s f_0).bind fun r1 =>
 some (decide (r1 ≥ 0))

theorem qdJ {n : Nat} {w : World} {s : (List Int)} {f_0 : ql} {cs1 : List Value} (ha1 : GoT.R w (old w) s cs1) {p2 : Option Addr} (ha2 : GoT.R w (old w) (some f_0) [.pointer p2]) {r : Bool} (hF : qaq n s f_0 = some r) : RetV Tryz.prog 155 [GoT.v (List Int) cs1, .func (.func 207) #[] #[.pointer p2]] w r := by
 obtain ⟨p1, k1, rfl, s1⟩ := ha1
 obtain ⟨b1, o_1, cs2, rfl, -, hr1, hc1⟩ := PtR.get ha2 rfl
 obtain ⟨p3, k2, p4, k3, p5, k4, rfl, s2, s3, s4⟩ := qaS hr1
 refine qe Tryz.func155 rfl (m := 9) rfl rfl (fun h => ?_)
 rw [qaq] at hF
 refine zSR (zp1 rfl (zNSR (zp2 rfl ?_)))
 obtain ⟨r1, hr2, hF⟩ := qd hF
 refine qU r1 h call190 (qd9 ⟨_, _, rfl, (h.oldS s1)⟩ (h.old ha2) hr2) rfl rfl rfl rfl ?_
 intro w1 h
 exact zp2 rfl (qb (qv qc h hF ⟨rfl, trivial⟩))

def qcS (n : Nat) (d : ql) (l : qx) (x : qk) : Option Bool :=
 (qej n l.Cells).bind fun r1 =>
 (qaI n x.Cell 0 (W64 (r1 - 1))).bind fun r2 =>
 bif r2 then
  (idx l.Cells x.Cell).bind fun y1 =>
  bif ((x.Nets.length : Int) == (y1.Pins.length : Int)) then
   (qaq n x.Nets d).bind fun r3 =>
   some (!r3)
  else
   some false
 else
  some false

theorem qif {n : Nat} {w : World} {d : ql} {l : qx} {x : qk} {cs1 : List Value} (ha1 : GoT.R w (old w) d cs1) {cs2 : List Value} (ha2 : GoT.R w (old w) l cs2) {cs3 : List Value} (ha3 : GoT.R w (old w) x cs3) {r : Bool} (hF : qcS n d l x = some r) : RetV Tryz.prog 181 [GoT.v ql cs1, GoT.v qx cs2, GoT.v qk cs3] w r := by
 obtain ⟨p1, k1, p2, k2, p3, k3, rfl, s1, s2, s3⟩ := qaS ha1
 obtain ⟨p4, k4, rfl, s4⟩ := qbW ha2
 obtain ⟨p5, k5, rfl, s5⟩ := qae ha3
 refine qe Tryz.func181 rfl (m := 35) rfl rfl (fun h => ?_)
 rw [qcS] at hF
 refine zSR (qP h rfl rfl ?_)
 intro w1 bb1 h
 refine qP h rfl rfl ?_
 intro w2 bb2 h
 refine qP h rfl rfl ?_
 intro w3 bb3 h
 refine zp1 rfl (zNS ?_)
 refine qcU rfl (by kernel_rfl) ?_
 refine zd1 rfl ?_
 refine zdl 0 1 h rfl ?_
 refine zd1 rfl ?_
 refine zdl 1 0 h rfl ?_
 obtain ⟨r1, hr1, hF⟩ := qd hF
 refine qcn r1 (vsI _) call206 (fun _ hb => qip ⟨_, _, rfl, ((h.ext hb).oldS s4)⟩ hr1) rfl rfl rfl rfl ?_
 refine zd1 rfl ?_
 obtain ⟨r2, hr2, hF⟩ := qd hF
 refine qcn r2 (vsB _) call86 (fun _ hb => qap  hr2) rfl rfl rfl rfl ?_
 refine zd1 rfl ?_
 by_cases hc1 : r2 = true
 ·replace hF := bifT hc1 hF
  refine qde hc1 (t := 14) rfl (qi rfl (zd1 rfl (qi rfl ?_)))
  refine zdl 0 2 h rfl ?_
  refine qi rfl (zd1 rfl (qi rfl (zd1 rfl (qi rfl ?_))))
  refine zdl 1 0 h rfl ?_
  refine qi rfl (zd1 rfl (qi rfl ?_))
  refine zdl 0 1 h rfl ?_
  refine qi rfl ?_
  obtain ⟨y1, hy1, hF⟩ := qd hF
  have he1 := qg hy1
  obtain ⟨b1, o_1, q1, cs4, hp1, hq1, -, hr3, hc2⟩ := s4.at hy1
  obtain ⟨p6, k6, p7, k7, p8, k8, rfl, s6, s7, s8⟩ := qaj hr3
  refine zdxe hp1 hq1 he1 rfl ?_
  refine qi rfl (zd1 rfl (qi rfl ?_))
  refine zdc 2 (hc2.below h.below) rfl ?_
  refine qi rfl (zd1 rfl (qi rfl (zd3 rfl ?_)))
  by_cases hc3 : ((x.Nets.length : Int) == (y1.Pins.length : Int)) = true
  ·replace hF := bifT hc3 hF
   refine qde hc3 (t := 28) rfl (qi rfl (zd1 rfl (qi rfl ?_)))
   refine zdl 0 2 h rfl ?_
   refine qi rfl (zd1 rfl (qi rfl ?_))
   obtain ⟨r3, hr4, hF⟩ := qd hF
   refine qcn r3 (vsB _) call155 (fun _ hb => qdJ ⟨_, _, rfl, ((h.ext hb).oldS s5)⟩ (qib (x := d) 2 (h.ext hb) rfl ((h.ext hb).old ha1)) hr4) rfl rfl rfl rfl ?_
   refine qi rfl (zd3 rfl ?_)
   refine qbk (fun w4 hb => ?_)
   replace h := h.ext hb
   clear hb
   exact qv qc h hF ⟨rfl, trivial⟩
  replace hc3 := zb hc3
  replace hF := bifF hc3 hF
  refine qdl hc3 (t := 28) rfl (qj rfl rfl rfl (qj rfl rfl rfl (qj rfl rfl rfl (qj rfl rfl rfl (qj rfl rfl rfl (zd2 rfl ?_))))))
  refine qbk (fun w5 hb => ?_)
  replace h := h.ext hb
  clear hb
  exact qv qc h hF ⟨rfl, trivial⟩
 replace hc1 := zb hc1
 replace hF := bifF hc1 hF
 refine qdl hc1 (t := 14) rfl (qj rfl rfl rfl (qj rfl rfl rfl (qj rfl rfl rfl (qj rfl rfl rfl (qj rfl rfl rfl (qj rfl rfl rfl (qj rfl rfl rfl (qj rfl rfl rfl (qj rfl rfl rfl (qj rfl rfl rfl (qj rfl rfl rfl ?_)))))))))))
 refine qj rfl rfl rfl (zd2 rfl (qj rfl rfl rfl (qj rfl rfl rfl (qj rfl rfl rfl (qj rfl rfl rfl (qj rfl rfl rfl (zd2 rfl ?_)))))))
 refine qbk (fun w6 hb => ?_)
 replace h := h.ext hb
 clear hb
 exact qv qc h hF ⟨rfl, trivial⟩

def qge (_ : Nat) (a_n : Int) : Option Bool :=
 some (a_n != 1)

theorem qj6 {n : Nat} {w : World} {a_n : Int}  {r : Bool} (hF : qge n a_n = some r) : RetV Tryz.prog 184 [.int .i64 a_n] w r := by
 refine qe Tryz.func184 rfl (m := 5) rfl rfl (fun h => ?_)
 rw [qge] at hF
 exact zSR (zp1 rfl (zNSR (zp3 rfl (qb (qv qc h hF ⟨rfl, trivial⟩)))))

def qT (s : (List Int)) : Nat → Int → Option (Flow Int Int)
 | 0, _ => none
 | n + 1, i1 =>
  bif decide (i1 < (s.length : Int)) then
   (idx s i1).bind fun y1 =>
   (qge n y1).bind fun r1 =>
   bif r1 then
    some (.ret i1)
   else
    qT s n (W64 (i1 + 1))
  else
   some (.nxt i1)

def qbl (n : Nat) (s : (List Int)) : Option Int :=
 (qT s n 0).bind fun o => match o with
 | .ret r => some r
 | .nxt _ =>
  some (-1)

theorem qfx {n : Nat} {w : World} {s : (List Int)} {cs1 : List Value} (ha1 : GoT.R w (old w) s cs1) {r : Int} (hF : qbl n s = some r) : RetV Tryz.prog 209 [GoT.v (List Int) cs1, .func (.func 184) #[] #[]] w r := by
 obtain ⟨p1, k1, rfl, s1⟩ := ha1
 refine qe Tryz.func209 rfl (m := 19) rfl rfl (fun h => ?_)
 rw [qbl] at hF
 refine zSR (zp1 rfl (zNSSR (zp3 rfl (qb ?_))))
 obtain ⟨o1, hF, hK1⟩ := qd hF
 refine qw (qR [(0, _), (1, _), (7, _), (8, _)] ⟨rfl, rfl, rfl, rfl, trivial⟩ ?_)
 refine qH (fun m e w' => ∃ (i1 : Int), qT s m i1 = some o1 ∧ e = [(0, .slice p1 s.length k1), (1, .func (.func 184) #[] #[]), (7, .int .i64 (s.length : Int)), (8, .int .i64 i1)] ∧ SH w w' []) n ⟨_, hF, rfl, h⟩ ?_
 rintro m1 e1 w1 ⟨i1, hF, rfl, h⟩
 rcases m1 with _ | m1
 ·rw [qT] at hF
  cases hF
 rw [qT] at hF
 refine zSR (zp1 rfl (zNS ?_))
 refine qq rfl hF ?_ ?_ <;> intro hF
 ·refine zKSBSR (zp2 rfl (zNSR (zp2 rfl ?_)))
  refine zp1 rfl ?_
  obtain ⟨y1, hy1, hF⟩ := qd hF
  have he1 := qg hy1
  obtain ⟨b1, o_1, q1, cs2, hp1, hq1, -, hr1, hc2⟩ := s1.at hy1
  obtain rfl := hr1
  refine zxe hp1 hq1 he1 rfl (zc 0 (hc2.below h.below) rfl ?_)
  obtain ⟨r1, hr2, hF⟩ := qd hF
  refine qp r1 h call184 (qj6 hr2) rfl rfl rfl rfl ?_
  intro w2 h
  refine qb ?_
  refine qq rfl hF ?_ ?_ <;> intro hF
  ·refine zSR (zp2 rfl (qb ?_))
   obtain rfl := qh hF; replace hF := hK1
   exact qaF qc h hF ⟨rfl, trivial⟩
  exact zKER (zp2 rfl (qb (qA m1 [(0, _), (1, _), (7, _), (8, _)] (Nat.lt_succ_self m1) ⟨rfl, rfl, rfl, rfl, trivial⟩ ⟨_, hF, rfl, h⟩)))
 refine qI rfl ?_
 obtain rfl := qh hF; replace hF := hK1
 exact zSR (zp1 rfl (qb (qaF qc h hF ⟨rfl, trivial⟩)))

def qa7 (n : Nat) (s : (List Int)) : Option Bool :=
 (qbl n s).bind fun r1 =>
 some (decide (r1 ≥ 0))

theorem qe7 {n : Nat} {w : World} {s : (List Int)} {cs1 : List Value} (ha1 : GoT.R w (old w) s cs1) {r : Bool} (hF : qa7 n s = some r) : RetV Tryz.prog 183 [GoT.v (List Int) cs1, .func (.func 184) #[] #[]] w r := by
 obtain ⟨p1, k1, rfl, s1⟩ := ha1
 refine qe Tryz.func183 rfl (m := 9) rfl rfl (fun h => ?_)
 rw [qa7] at hF
 refine zSR (zp1 rfl (zNSR (zp2 rfl ?_)))
 obtain ⟨r1, hr1, hF⟩ := qd hF
 refine qU r1 h call209 (qfx ⟨_, _, rfl, (h.oldS s1)⟩ hr1) rfl rfl rfl rfl ?_
 intro w1 h
 exact zp2 rfl (qb (qv qc h hF ⟨rfl, trivial⟩))

def qbA (a_1 : ql) : Nat → (List Int) → Int → Option (Flow Bool ((List Int) × Int))
 | 0, _, _ => none
 | n + 1, x3, i2 =>
  bif decide (i2 < (a_1.Ports.length : Int)) then
   (idx a_1.Ports i2).bind fun y5 =>
   (
    bif (y5.Dir != 1) then
     bif (y5.Dir != 2) then
      some true
     else
      (qcN n a_1 y5.Net).bind fun r2 =>
      some (!r2)
    else
     (qcN n a_1 y5.Net).bind fun r3 =>
     some (!r3)).bind fun b7 =>
   bif b7 then
    some (.ret false)
   else
    bif (y5.Dir == 1) then
     (idx x3 y5.Net).bind fun y6 =>
     (idx x3 y5.Net).bind fun _ =>
     qbA a_1 n (setS x3 y5.Net (W64 (y6 + 1))) (W64 (i2 + 1))
    else
     qbA a_1 n x3 (W64 (i2 + 1))
  else
   some (.nxt (x3, i2))

def qb6 (a_0 : qx) (a_1 : ql) : Nat → (List Int) → Int → Option (Flow Bool ((List Int) × Int))
 | 0, _, _ => none
 | n + 1, x2, i1 =>
  bif decide (i1 < (a_1.Instances.length : Int)) then
   (idx a_1.Instances i1).bind fun y1 =>
   (qcS n a_1 a_0 y1).bind fun r1 =>
   bif (!r1) then
    some (.ret false)
   else
    (idx y1.Nets (W64 ((y1.Nets.length : Int) - 1))).bind fun y2 =>
    (idx x2 y2).bind fun y3 =>
    (idx x2 y2).bind fun _ =>
    qb6 a_0 a_1 n (setS x2 y2 (W64 (y3 + 1))) (W64 (i1 + 1))
  else
   some (.nxt (x2, i1))

def qga (n : Nat) (a_0 : qx) (a_1 : ql) : Option Bool :=
 (
  (qfH n a_0).bind fun r5 =>
  bif (!r5) then
   some true
  else
   (qdy n a_1).bind fun r6 =>
   some (!r6)).bind fun b1 =>
 bif b1 then
  some false
 else
  (mkS (a_1.Nets.length : Int) (0 : Int)).bind fun x1 =>
  (qb6 a_0 a_1 n x1 0).bind fun o => match o with
  | .ret r => some r
  | .nxt (x2, _) =>
   (qbA a_1 n x2 0).bind fun o => match o with
   | .ret r => some r
   | .nxt (x3, _) =>
    (qa7 n x3).bind fun r4 =>
    some (!r4)

theorem qkG {n : Nat} {w : World} {a_0 : qx} {a_1 : ql} {cs1 : List Value} (ha1 : GoT.R w (old w) a_0 cs1) {cs2 : List Value} (ha2 : GoT.R w (old w) a_1 cs2) {r : Bool} (hF : qga n a_0 a_1 = some r) : RetV Tryz.prog 147 [GoT.v qx cs1, GoT.v ql cs2] w r := by
 obtain ⟨p1, k1, rfl, s1⟩ := qbW ha1
 obtain ⟨p2, k2, p3, k3, p4, k4, rfl, s2, s3, s4⟩ := qaS ha2
 refine qe Tryz.func147 rfl (m := 84) rfl rfl (fun h => ?_)
 rw [qga] at hF
 refine zSR (qP h rfl rfl ?_)
 intro w1 bb1 h
 refine qP h rfl rfl ?_
 intro w2 bb2 h
 refine zp1 rfl (zNSS ?_)
 obtain ⟨KF2, hKF2, o4, hF, hK4⟩ := bindE hF
 refine qeG (fun e w' => ∃ (b1 : Bool), KF2 b1 = some r ∧ e = [(2, .pointer (some ⟨bb1, 0, none⟩)), (3, .pointer (some ⟨bb2, 0, none⟩)), (17, .bool b1)] ∧ SH w w' [Ch.box bb2 [.slice p2 a_1.Instances.length k2, .slice p3 a_1.Nets.length k3, .slice p4 a_1.Ports.length k4] 47, Ch.box bb1 [.slice p1 a_0.Cells.length k1] 43]) ?_ ?_
 ·refine qz (zl 1 0 h rfl ?_)
  obtain ⟨r5, hr12, hF⟩ := qd hF
  refine qp r5 h call179 (qkt (h.old ha1) hr12) rfl rfl rfl rfl ?_
  intro w17 h
  refine zp2 rfl ?_
  by_cases hc16 : (!r5) = true
  ·replace hF := bifT hc16 hF
   refine qF hc16 (t := 13) rfl (zn3 rfl (zp1 rfl (qb ?_)))
   obtain rfl := qh hF
   exact qy [(2, _), (3, _), (17, _)] ⟨rfl, rfl, rfl, trivial⟩ ⟨_, hK4, rfl, h⟩
  replace hc16 := zb hc16
  replace hF := bifF hc16 hF
  refine qE hc16 (t := 13) rfl (qa rfl (zl 0 0 h rfl (qa rfl ?_)))
  obtain ⟨r6, hr13, hF⟩ := qd hF
  refine qp r6 h call180 (qiw (h.old ha2) hr13) rfl rfl rfl rfl ?_
  intro w18 h
  refine qa rfl (zp2 rfl (qb ?_))
  obtain rfl := qh hF
  exact qy [(2, _), (3, _), (17, _)] ⟨rfl, rfl, rfl, trivial⟩ ⟨_, hK4, rfl, h⟩
 rintro e4 w19 ⟨b1, hF, rfl, h⟩
 subst hKF2
 refine qq rfl hF ?_ ?_ <;> intro hF
 ·exact zSR (zp1 rfl (qb (qv qc h hF ⟨rfl, trivial⟩)))
 refine zKSR (zp1 rfl (zl 0 1 h rfl (zp1 rfl ?_)))
 obtain ⟨x1, hx1, hF⟩ := qd hF
 obtain ⟨g1, g2, hx1⟩ := qdx hx1
 refine qeB qc Int h rfl rfl rfl rfl rfl rfl rfl rfl rfl g1 g2 hx1 rfl ?_
 intro w3 S1 p5 h
 refine zp1 rfl (zNSSR (zp1 rfl (zl 1 0 h rfl (zp2 rfl (qb ?_)))))
 obtain ⟨o1, hF, hK1⟩ := qd hF
 refine qw (qR [(2, _), (3, _), (5, _), (23, _), (24, _), (25, _)] ⟨rfl, rfl, rfl, rfl, rfl, rfl, trivial⟩ ?_)
 refine qH (fun m e w' => ∃ (x2 : (List Int)) (i1 : Int), qb6 a_0 a_1 m x2 i1 = some o1 ∧ e = [(2, .pointer (some ⟨bb1, 0, none⟩)), (3, .pointer (some ⟨bb2, 0, none⟩)), (5, .slice p5 x1.length x1.length), (23, .slice p2 a_1.Instances.length k2), (24, .int .i64 (a_1.Instances.length : Int)), (25, .int .i64 i1)] ∧ SH w w' [Ch.own S1 (x2 : List Int) [.slice p5 x1.length x1.length], Ch.box bb2 [.slice p2 a_1.Instances.length k2, .slice p3 a_1.Nets.length k3, .slice p4 a_1.Ports.length k4] 47, Ch.box bb1 [.slice p1 a_0.Cells.length k1] 43]) n ⟨_, _, hF, rfl, h⟩ ?_
 rintro m1 e1 w4 ⟨x2, i1, hF, rfl, h⟩
 rcases m1 with _ | m1
 ·rw [qb6] at hF
  cases hF
 rw [qb6] at hF
 refine zSR (zp1 rfl (zNS ?_))
 refine qq rfl hF ?_ ?_ <;> intro hF
 ·refine zKSBSR ?_
  obtain ⟨y1, hy1, hF⟩ := qd hF
  have he1 := qg hy1
  obtain ⟨b2, o_1, q1, cs3, hp1, hq1, -, hr1, hc3⟩ := s2.at hy1
  obtain ⟨p6, k5, rfl, s5⟩ := qae hr1
  refine zxe hp1 hq1 he1 rfl (zc 0 (hc3.below h.below) rfl (qah qc h rfl rfl rfl ?_))
  intro w5 bb3 h
  refine zs 0 h rfl ?_
  intro w6 h
  refine zNSSR (zl 2 0 h rfl (zl 3 0 h rfl (zl 0 0 h rfl ?_)))
  obtain ⟨r1, hr2, hF⟩ := qd hF
  refine qp r1 h call181 (qif (h.old ha2) (h.old ha1) (qfp y1 (h.oldS s5)) hr2) rfl rfl rfl rfl ?_
  intro w7 h
  refine zp1 rfl (qb ?_)
  refine qq rfl hF ?_ ?_ <;> intro hF
  ·refine zSR (zp1 rfl (qb ?_))
   obtain rfl := qh hF; replace hF := hK1
   exact qv qc h hF ⟨rfl, trivial⟩
  refine qdO (qz (zp2 rfl (zl 0 2 h rfl (zp1 rfl (zl 0 2 h rfl (zp2 rfl ?_))))))
  obtain ⟨y2, hy2, hF⟩ := qd hF
  have he2 := qg hy2
  obtain ⟨b3, o_2, q2, cs4, hp2, hq2, -, hr3, hc5⟩ := s5.at hy2
  obtain rfl := hr3
  refine zxe hp2 hq2 he2 rfl (zc 0 (hc5.below h.below) rfl ?_)
  obtain ⟨y3, hy3, hF⟩ := qd hF
  have he3 := qg hy3
  obtain ⟨b4, o_3, q3, cs5, hp3, hq3, -, hr4, hc6⟩ := (h.sl 1 rfl).1.at hy3
  obtain rfl := hr4
  refine zx hp3 hq3 ⟨he3.1, qac he3.2.1 (h.sl 1 rfl).2⟩ rfl (zc 0 hc6 rfl (zp1 rfl ?_))
  obtain ⟨y4, hy4, hF⟩ := qd hF
  have he4 := qg hy4
  obtain ⟨b5, o_4, q4, cs6, hp4, hq4, -, hr5, hc7⟩ := (h.sl 1 rfl).1.at hy4
  obtain rfl := hr5
  refine zx hp4 hq4 ⟨he4.1, qac he4.2.1 (h.sl 1 rfl).2⟩ rfl (qcH qc 1 0 (W64 (y3 + 1)) h rfl hy4 hp4 hq4 rfl hc7 rfl rfl rfl rfl rfl rfl rfl ?_)
  intro w8 h
  refine zNER (zp2 rfl (qb ?_))
  replace h := h.pick [1, 2, 3] rfl
  exact qA m1 [(2, _), (3, _), (5, _), (23, _), (24, _), (25, _)] (Nat.lt_succ_self m1) ⟨rfl, rfl, rfl, rfl, rfl, rfl, trivial⟩ ⟨_, _, hF, rfl, h⟩
 refine qI rfl ?_
 obtain rfl := qh hF; replace hF := hK1
 refine zSSR (zp1 rfl (zl 1 2 h rfl (zp2 rfl (qb ?_))))
 obtain ⟨o2, hF, hK2⟩ := qd hF
 refine qw ?_
 replace h := h.pick [0, 1] rfl
 refine qR [(3, _), (5, _), (49, _), (50, _), (51, _)] ⟨rfl, rfl, rfl, rfl, rfl, trivial⟩ ?_
 refine qH (fun m e w' => ∃ (x3 : (List Int)) (i2 : Int), qbA a_1 m x3 i2 = some o2 ∧ e = [(3, .pointer (some ⟨bb2, 0, none⟩)), (5, .slice p5 x1.length x1.length), (49, .slice p4 a_1.Ports.length k4), (50, .int .i64 (a_1.Ports.length : Int)), (51, .int .i64 i2)] ∧ SH w w' [Ch.own S1 (x3 : List Int) [.slice p5 x1.length x1.length], Ch.box bb2 [.slice p2 a_1.Instances.length k2, .slice p3 a_1.Nets.length k3, .slice p4 a_1.Ports.length k4] 47]) n ⟨_, _, hF, rfl, h⟩ ?_
 rintro m2 e2 w9 ⟨x3, i2, hF, rfl, h⟩
 rcases m2 with _ | m2
 ·rw [qbA] at hF
  cases hF
 rw [qbA] at hF
 refine zSR (zp1 rfl (zNS ?_))
 refine qq rfl hF ?_ ?_ <;> intro hF
 ·refine zKSBSR ?_
  obtain ⟨y5, hy5, hF⟩ := qd hF
  have he5 := qg hy5
  obtain ⟨b6, o_5, q5, cs7, hp5, hq5, -, hr6, hc9⟩ := s4.at hy5
  obtain rfl := qaX hr6
  refine zxe hp5 hq5 he5 rfl (zc 0 (hc9.below h.below) rfl (qah qc h rfl rfl rfl ?_))
  intro w10 bb4 h
  refine zs 0 h rfl ?_
  intro w11 h
  replace h : SH _ _ [Ch.box bb4 [.string y5.Name, .int .i64 y5.Dir, .int .i64 y5.Net] 187, Ch.own S1 (x3 : List Int) [.slice p5 x1.length x1.length], Ch.box bb2 [.slice p2 a_1.Instances.length k2, .slice p3 a_1.Nets.length k3, .slice p4 a_1.Ports.length k4] 47] := h
  refine zNSS ?_
  obtain ⟨KF1, hKF1, o3, hF, hK3⟩ := bindE hF
  refine qeG (fun e w' => ∃ (b7 : Bool), KF1 b7 = some o2 ∧ e = [(3, .pointer (some ⟨bb2, 0, none⟩)), (5, .slice p5 x1.length x1.length), (9, .pointer (some ⟨bb4, 0, none⟩)), (49, .slice p4 a_1.Ports.length k4), (50, .int .i64 (a_1.Ports.length : Int)), (51, .int .i64 i2), (69, .bool b7)] ∧ SH w w' [Ch.box bb4 [.string y5.Name, .int .i64 y5.Dir, .int .i64 y5.Net] 187, Ch.own S1 (x3 : List Int) [.slice p5 x1.length x1.length], Ch.box bb2 [.slice p2 a_1.Instances.length k2, .slice p3 a_1.Nets.length k3, .slice p4 a_1.Ports.length k4] 47]) ?_ ?_
  ·refine qz (zp1 rfl (zl 0 1 h rfl (zp2 rfl ?_)))
   by_cases hc14 : (y5.Dir != 1) = true
   ·replace hF := bifT hc14 hF
    refine qF hc14 (t := 58) rfl (qa rfl (zp1 rfl (qa rfl (zl 0 1 h rfl (qa rfl (zp3 rfl ?_))))))
    by_cases hc15 : (y5.Dir != 2) = true
    ·replace hF := bifT hc15 hF
     refine qF hc15 (t := 63) rfl (zn5 rfl (zp1 rfl (qb ?_)))
     obtain rfl := qh hF
     exact qy [(3, _), (5, _), (9, _), (49, _), (50, _), (51, _), (69, _)] ⟨rfl, rfl, rfl, rfl, rfl, rfl, rfl, trivial⟩ ⟨_, hK3, rfl, h⟩
    replace hc15 := zb hc15
    replace hF := bifF hc15 hF
    refine qE hc15 (t := 63) rfl (qa rfl (zl 2 0 h rfl (qa rfl (zp1 rfl (qa rfl (zl 0 2 h rfl (qa rfl ?_)))))))
    obtain ⟨r2, hr9, hF⟩ := qd hF
    refine qp r2 h call182 (qfz (h.old ha2) hr9) rfl rfl rfl rfl ?_
    intro w13 h
    refine qa rfl (zp2 rfl (qb ?_))
    obtain rfl := qh hF
    exact qy [(3, _), (5, _), (9, _), (49, _), (50, _), (51, _), (69, _)] ⟨rfl, rfl, rfl, rfl, rfl, rfl, rfl, trivial⟩ ⟨_, hK3, rfl, h⟩
   replace hc14 := zb hc14
   replace hF := bifF hc14 hF
   refine qE hc14 (t := 58) rfl (zn3 rfl (zp2 rfl (qa rfl (zl 2 0 h rfl (qa rfl (zp1 rfl (qa rfl (zl 0 2 h rfl ?_))))))))
   refine qa rfl ?_
   obtain ⟨r3, hr10, hF⟩ := qd hF
   refine qp r3 h call182 (qfz (h.old ha2) hr10) rfl rfl rfl rfl ?_
   intro w14 h
   refine qa rfl (zp2 rfl (qb ?_))
   obtain rfl := qh hF
   exact qy [(3, _), (5, _), (9, _), (49, _), (50, _), (51, _), (69, _)] ⟨rfl, rfl, rfl, rfl, rfl, rfl, rfl, trivial⟩ ⟨_, hK3, rfl, h⟩
  rintro e3 w15 ⟨b7, hF, rfl, h⟩
  subst hKF1
  refine qq rfl hF ?_ ?_ <;> intro hF
  ·refine zSR (zp1 rfl (qb ?_))
   obtain rfl := qh hF; replace hF := hK2
   exact qv qc h hF ⟨rfl, trivial⟩
  refine zKSR (zp1 rfl (zl 0 1 h rfl (zp1 rfl (qb ?_))))
  refine qq rfl hF ?_ ?_ <;> intro hF
  ·refine qz (zp2 rfl (zl 0 2 h rfl ?_))
   obtain ⟨y6, hy6, hF⟩ := qd hF
   have he6 := qg hy6
   obtain ⟨b8, o_6, q6, cs8, hp6, hq6, -, hr7, hc12⟩ := (h.sl 1 rfl).1.at hy6
   obtain rfl := hr7
   refine zx hp6 hq6 ⟨he6.1, qac he6.2.1 (h.sl 1 rfl).2⟩ rfl (zc 0 hc12 rfl (zp1 rfl ?_))
   obtain ⟨y7, hy7, hF⟩ := qd hF
   have he7 := qg hy7
   obtain ⟨b9, o_7, q7, cs9, hp7, hq7, -, hr8, hc13⟩ := (h.sl 1 rfl).1.at hy7
   obtain rfl := hr8
   refine zx hp7 hq7 ⟨he7.1, qac he7.2.1 (h.sl 1 rfl).2⟩ rfl (qcH qc 1 0 (W64 (y6 + 1)) h rfl hy7 hp7 hq7 rfl hc13 rfl rfl rfl rfl rfl rfl rfl ?_)
   intro w12 h
   refine zNER (zp2 rfl (qb ?_))
   replace h := h.pick [1, 2] rfl
   exact qA m2 [(3, _), (5, _), (49, _), (50, _), (51, _)] (Nat.lt_succ_self m2) ⟨rfl, rfl, rfl, rfl, rfl, trivial⟩ ⟨_, _, hF, rfl, h⟩
  refine zKER (zp2 rfl (qb ?_))
  replace h := h.pick [1, 2] rfl
  exact qA m2 [(3, _), (5, _), (49, _), (50, _), (51, _)] (Nat.lt_succ_self m2) ⟨rfl, rfl, rfl, rfl, rfl, trivial⟩ ⟨_, _, hF, rfl, h⟩
 refine qI rfl ?_
 obtain rfl := qh hF; replace hF := hK2
 refine zSR (zp1 rfl ?_)
 obtain ⟨r4, hr11, hF⟩ := qd hF
 refine qp r4 h call183 (qe7 (h.own 0 rfl) hr11) rfl rfl rfl rfl ?_
 intro w16 h
 exact zp2 rfl (qb (qv qc h hF ⟨rfl, trivial⟩))

def qa1 (i1 : Int) (y1 : qk) : Nat → (List Tplace) → Int → Option ((List Tplace) × Int)
 | 0, _, _ => none
 | n + 1, x2, i2 =>
  bif decide (i2 < (y1.Nets.length : Int)) then
   (idx y1.Nets i2).bind fun y2 =>
   (appS x2 ([(⟨i1, i2, y2, (i2 == (W64 ((y1.Nets.length : Int) - 1)))⟩ : Tplace)] : List Tplace)).bind fun x3 =>
   qa1 i1 y1 n x3 (W64 (i2 + 1))
  else
   some (x2, i2)

def qa0 (d : ql) : Nat → (List Tplace) → Int → Option ((List Tplace) × Int)
 | 0, _, _ => none
 | n + 1, x4, i3 =>
  bif decide (i3 < (d.Ports.length : Int)) then
   (idx d.Ports i3).bind fun y3 =>
   (appS x4 ([(⟨(-1), i3, y3.Net, (y3.Dir == 1)⟩ : Tplace)] : List Tplace)).bind fun x5 =>
   qa0 d n x5 (W64 (i3 + 1))
  else
   some (x4, i3)

def qaZ (d : ql) : Nat → (List Tplace) → Int → Option ((List Tplace) × Int)
 | 0, _, _ => none
 | n + 1, x1, i1 =>
  bif decide (i1 < (d.Instances.length : Int)) then
   (idx d.Instances i1).bind fun y1 =>
   (qa1 i1 y1 n x1 0).bind fun o => match o with
   | (x2, _) =>
    qaZ d n x2 (W64 (i1 + 1))
  else
   some (x1, i1)

def qbT (n : Nat) (d : ql) : Option (List Tplace) :=
 (qaZ d n ([] : List Tplace) 0).bind fun o => match o with
 | (x1, _) =>
  (qa0 d n x1 0).bind fun o => match o with
  | (x4, _) =>
   some x4

theorem qeh {n : Nat} {w : World} {d : ql} {cs1 : List Value} (ha1 : GoT.R w (old w) d cs1) {r : (List Tplace)} (hF : qbT n d = some r) : RetV Tryz.prog 148 [GoT.v ql cs1] w r := by
 obtain ⟨p1, k1, p2, k2, p3, k3, rfl, s1, s2, s3⟩ := qaS ha1
 refine qe Tryz.func148 rfl (m := 61) rfl rfl (fun h => ?_)
 rw [qbT] at hF
 refine zSR (qP h rfl rfl ?_)
 intro w1 bb1 h
 refine zp1 rfl (zNSR (zp1 rfl (zNSSR (zp1 rfl (zl 0 0 h rfl (zp1 rfl ?_))))))
 refine zp1 rfl (qb ?_)
 replace h := h.nil (α := Tplace)
 obtain ⟨o1, hF, hK1⟩ := qd hF
 refine qw (qR [(1, _), (3, _), (11, _), (12, _), (13, _)] ⟨rfl, rfl, rfl, rfl, rfl, trivial⟩ ?_)
 refine qH (fun m e w' => ∃ (S1 : Nat → Prop) (p4 : Option Addr) (ln1 : Nat) (k4 : Nat) (x1 : (List Tplace)) (i1 : Int), qaZ d m x1 i1 = some o1 ∧ e = [(1, .pointer (some ⟨bb1, 0, none⟩)), (3, .slice p4 ln1 k4), (11, .slice p1 d.Instances.length k1), (12, .int .i64 (d.Instances.length : Int)), (13, .int .i64 i1)] ∧ SH w w' [Ch.own S1 (x1 : List Tplace) [.slice p4 ln1 k4], Ch.box bb1 [.slice p1 d.Instances.length k1, .slice p2 d.Nets.length k2, .slice p3 d.Ports.length k3] 47]) n ⟨_, _, _, _, _, _, hF, rfl, h⟩ ?_
 rintro m1 e1 w2 ⟨S1, p4, ln1, k4, x1, i1, hF, rfl, h⟩
 obtain rfl := (h.sl 0 rfl).2
 rcases m1 with _ | m1
 ·rw [qaZ] at hF
  cases hF
 rw [qaZ] at hF
 refine zSR (zp1 rfl (zNS ?_))
 refine qq rfl hF ?_ ?_ <;> intro hF
 ·refine zKSBSR (zp1 rfl ?_)
  obtain ⟨y1, hy1, hF⟩ := qd hF
  have he1 := qg hy1
  obtain ⟨b1, o_1, q1, cs2, hp1, hq1, -, hr1, hc2⟩ := s1.at hy1
  obtain ⟨p5, k5, rfl, s4⟩ := qae hr1
  refine zxe hp1 hq1 he1 rfl (zc 0 (hc2.below h.below) rfl (qah qc h rfl rfl rfl ?_))
  intro w3 bb2 h
  refine zp1 rfl (zs 0 h rfl ?_)
  intro w4 h
  replace h : SH _ _ [Ch.box bb2 [.string y1.Name, .int .i64 y1.Cell, .slice p5 y1.Nets.length k5] 185, Ch.own S1 (x1 : List Tplace) [.slice p4 x1.length k4], Ch.box bb1 [.slice p1 d.Instances.length k1, .slice p2 d.Nets.length k2, .slice p3 d.Ports.length k3] 47] := h
  refine zNSR (zp1 rfl (zl 0 2 h rfl (zp2 rfl (qb ?_))))
  obtain ⟨o2, hF, hK2⟩ := qd hF
  refine qw (qR [(1, _), (3, _), (4, _), (5, _), (11, _), (12, _), (13, _), (19, _), (20, _), (21, _)] ⟨rfl, rfl, rfl, rfl, rfl, rfl, rfl, rfl, rfl, rfl, trivial⟩ ?_)
  refine qH (fun m e w' => ∃ (S2 : Nat → Prop) (p6 : Option Addr) (ln2 : Nat) (k6 : Nat) (x2 : (List Tplace)) (i2 : Int), qa1 i1 y1 m x2 i2 = some o2 ∧ e = [(1, .pointer (some ⟨bb1, 0, none⟩)), (3, .slice p6 ln2 k6), (4, .int .i64 i1), (5, .pointer (some ⟨bb2, 0, none⟩)), (11, .slice p1 d.Instances.length k1), (12, .int .i64 (d.Instances.length : Int)), (13, .int .i64 i1), (19, .slice p5 y1.Nets.length k5), (20, .int .i64 (y1.Nets.length : Int)), (21, .int .i64 i2)] ∧ SH w w' [Ch.box bb2 [.string y1.Name, .int .i64 y1.Cell, .slice p5 y1.Nets.length k5] 185, Ch.own S2 (x2 : List Tplace) [.slice p6 ln2 k6], Ch.box bb1 [.slice p1 d.Instances.length k1, .slice p2 d.Nets.length k2, .slice p3 d.Ports.length k3] 47]) m1 ⟨_, _, _, _, _, _, hF, rfl, h⟩ ?_
  rintro m2 e2 w5 ⟨S2, p6, ln2, k6, x2, i2, hF, rfl, h⟩
  obtain rfl := (h.sl 1 rfl).2
  rcases m2 with _ | m2
  ·rw [qa1] at hF
   cases hF
  rw [qa1] at hF
  refine zSR (zp1 rfl (zNS ?_))
  refine qq rfl hF ?_ ?_ <;> intro hF
  ·refine zKSBSR (zp1 rfl ?_)
   obtain ⟨y2, hy2, hF⟩ := qd hF
   have he2 := qg hy2
   obtain ⟨b2, o_2, q2, cs3, hp2, hq2, -, hr2, hc4⟩ := s4.at hy2
   obtain rfl := hr2
   refine zxe hp2 hq2 he2 rfl (zc 0 (hc4.below h.below) rfl (zp2 rfl (qb (qz (zp5 rfl (zp1 rfl ?_))))))
   refine zl 0 2 h rfl (zp3 rfl (r_v (qhU qc [0, 1, 2, 3] [.tmp 27, .tmp 28, .tmp 29, .tmp 35] rfl rfl rfl rfl rfl rfl rfl rfl) rfl (qaY qc [.tmp 36] _ ([(⟨i1, i2, y2, (i2 == (W64 ((y1.Nets.length : Int) - 1)))⟩ : Tplace)] : List Tplace) h rfl rfl rfl rfl rfl rfl rfl rfl rfl ⟨(qiO (⟨i1, i2, y2, (i2 == (W64 ((y1.Nets.length : Int) - 1)))⟩ : Tplace)), trivial⟩ rfl ?_)))
   intro w6 p7 S3 h
   obtain ⟨x3, hx1, hF⟩ := qd hF
   obtain ⟨g1, hx1⟩ := qbt hx1
   refine qeW qc 2 h rfl (h.sl 0 rfl).1 (h.sl 0 rfl).2 rfl rfl rfl rfl rfl rfl rfl rfl rfl g1 hx1 rfl ?_
   intro w7 p8 k7 S4 h
   refine zp1 rfl (zNER (zp2 rfl (qb ?_)))
   replace h := h.pick [1, 2, 3] rfl
   exact qA m2 [(1, _), (3, _), (4, _), (5, _), (11, _), (12, _), (13, _), (19, _), (20, _), (21, _)] (Nat.lt_succ_self m2) ⟨rfl, rfl, rfl, rfl, rfl, rfl, rfl, rfl, rfl, rfl, trivial⟩ ⟨_, _, _, _, _, _, hF, rfl, h⟩
  refine qI rfl ?_
  obtain rfl := qh hF; replace hF := hK2
  refine qfE (qz (zp2 rfl (qb ?_)))
  replace h := h.pick [1, 2] rfl
  exact qA m1 [(1, _), (3, _), (11, _), (12, _), (13, _)] (Nat.lt_succ_self m1) ⟨rfl, rfl, rfl, rfl, rfl, trivial⟩ ⟨_, _, _, _, _, _, hF, rfl, h⟩
 refine qI rfl ?_
 obtain rfl := qh hF; replace hF := hK1
 refine zSSR (zp1 rfl (zl 1 2 h rfl (zp2 rfl (qb ?_))))
 obtain ⟨o3, hF, hK3⟩ := qd hF
 refine qw ?_
 replace h := h.pick [0] rfl
 refine qR [(3, _), (42, _), (43, _), (44, _)] ⟨rfl, rfl, rfl, rfl, trivial⟩ ?_
 refine qH (fun m e w' => ∃ (S5 : Nat → Prop) (p9 : Option Addr) (ln3 : Nat) (k8 : Nat) (x4 : (List Tplace)) (i3 : Int), qa0 d m x4 i3 = some o3 ∧ e = [(3, .slice p9 ln3 k8), (42, .slice p3 d.Ports.length k3), (43, .int .i64 (d.Ports.length : Int)), (44, .int .i64 i3)] ∧ SH w w' [Ch.own S5 (x4 : List Tplace) [.slice p9 ln3 k8]]) n ⟨_, _, _, _, _, _, hF, rfl, h⟩ ?_
 rintro m3 e3 w8 ⟨S5, p9, ln3, k8, x4, i3, hF, rfl, h⟩
 obtain rfl := (h.sl 0 rfl).2
 rcases m3 with _ | m3
 ·rw [qa0] at hF
  cases hF
 rw [qa0] at hF
 refine zSR (zp1 rfl (zNS ?_))
 refine qq rfl hF ?_ ?_ <;> intro hF
 ·refine zKSBSR (zp1 rfl ?_)
  obtain ⟨y3, hy3, hF⟩ := qd hF
  have he3 := qg hy3
  obtain ⟨b3, o_3, q3, cs4, hp3, hq3, -, hr3, hc6⟩ := s3.at hy3
  obtain rfl := qaX hr3
  refine zxe hp3 hq3 he3 rfl (zc 0 (hc6.below h.below) rfl (qah qc h rfl rfl rfl ?_))
  intro w9 bb3 h
  refine zp1 rfl (zs 0 h rfl ?_)
  intro w10 h
  refine qb (qz (zp3 rfl (zl 0 2 h rfl (zp1 rfl (zl 0 1 h rfl (zp1 rfl (r_v (qhU qc [0, 1, 2, 3] [.const (.int .i64 (-1)), .tmp 50, .tmp 52, .tmp 55] rfl rfl rfl rfl rfl rfl rfl rfl) rfl (qaY qc [.tmp 56] _ ([(⟨(-1), i3, y3.Net, (y3.Dir == 1)⟩ : Tplace)] : List Tplace) h rfl rfl rfl rfl rfl rfl rfl rfl rfl ⟨(qiO (⟨(-1), i3, y3.Net, (y3.Dir == 1)⟩ : Tplace)), trivial⟩ rfl ?_))))))))
  intro w11 p10 S6 h
  obtain ⟨x5, hx2, hF⟩ := qd hF
  obtain ⟨g2, hx2⟩ := qbt hx2
  refine qeW qc 2 h rfl (h.sl 0 rfl).1 (h.sl 0 rfl).2 rfl rfl rfl rfl rfl rfl rfl rfl rfl g2 hx2 rfl ?_
  intro w12 p11 k9 S7 h
  refine zp1 rfl (zNER (zp2 rfl (qb ?_)))
  replace h := h.pick [2] rfl
  exact qA m3 [(3, _), (42, _), (43, _), (44, _)] (Nat.lt_succ_self m3) ⟨rfl, rfl, rfl, rfl, trivial⟩ ⟨_, _, _, _, _, _, hF, rfl, h⟩
 refine qI rfl ?_
 obtain rfl := qh hF; replace hF := hK3
 refine zSR (zp2 rfl (qb ?_))
 obtain rfl := qh hF
 exact qay qc (ρ := (List Tplace)) [GoT.v (List Tplace) [.slice p9 x4.length k8]] h ⟨rfl, trivial⟩ (PV.done h (qaG (qab 0 h rfl)))

def qaQ (a_w : qQ) : Nat → Int → Option (Flow Bool Int)
 | 0, _ => none
 | n + 1, i1 =>
  bif decide (i1 < (a_w.Parent.length : Int)) then
   (idx a_w.Parent i1).bind fun y1 =>
   bif (i1 == 0) then
    bif (y1 != (-1)) then
     some (.ret false)
    else
     (idx a_w.Res 0).bind fun y2 =>
     bif (y2 != 0) then
      some (.ret false)
     else
      bif decide (i1 > 0) then
       (qaI n y1 0 (W64 (i1 - 1))).bind fun r1 =>
       bif (!r1) then
        some (.ret false)
       else
        qaQ a_w n (W64 (i1 + 1))
      else
       qaQ a_w n (W64 (i1 + 1))
   else
    bif decide (i1 > 0) then
     (qaI n y1 0 (W64 (i1 - 1))).bind fun r2 =>
     bif (!r2) then
      some (.ret false)
     else
      qaQ a_w n (W64 (i1 + 1))
    else
     qaQ a_w n (W64 (i1 + 1))
  else
   some (.nxt i1)

def qe5 (n : Nat) (a_w : qQ) : Option Bool :=
 (qaQ a_w n 0).bind fun o => match o with
 | .ret r => some r
 | .nxt _ =>
  some true

theorem qjN {n : Nat} {w : World} {a_w : qQ} {cs1 : List Value} (ha1 : GoT.R w (old w) a_w cs1) {r : Bool} (hF : qe5 n a_w = some r) : RetV Tryz.prog 185 [GoT.v qQ cs1] w r := by
 obtain ⟨p1, k1, p2, k2, p3, k3, p4, k4, rfl, s1, s2, s3, s4⟩ := qbu ha1
 refine qe Tryz.func185 rfl (m := 38) rfl rfl (fun h => ?_)
 rw [qe5] at hF
 refine zSR (qP h rfl rfl ?_)
 intro w1 bb1 h
 refine zp1 rfl (zNSSR (zp1 rfl (zl 0 0 h rfl (zp2 rfl (qb ?_)))))
 obtain ⟨o1, hF, hK1⟩ := qd hF
 refine qw (qR [(1, _), (6, _), (7, _), (8, _)] ⟨rfl, rfl, rfl, rfl, trivial⟩ ?_)
 refine qH (fun m e w' => ∃ (i1 : Int), qaQ a_w m i1 = some o1 ∧ e = [(1, .pointer (some ⟨bb1, 0, none⟩)), (6, .slice p1 a_w.Parent.length k1), (7, .int .i64 (a_w.Parent.length : Int)), (8, .int .i64 i1)] ∧ SH w w' [Ch.box bb1 [.slice p1 a_w.Parent.length k1, .slice p2 a_w.Res.length k2, .slice p3 a_w.Cap.length k3, .slice p4 a_w.Sink.length k4] 130]) n ⟨_, hF, rfl, h⟩ ?_
 rintro m1 e1 w2 ⟨i1, hF, rfl, h⟩
 rcases m1 with _ | m1
 ·rw [qaQ] at hF
  cases hF
 rw [qaQ] at hF
 refine zSR (zp1 rfl (zNS ?_))
 refine qq rfl hF ?_ ?_ <;> intro hF
 ·refine zKSBSR (zp1 rfl ?_)
  obtain ⟨y1, hy1, hF⟩ := qd hF
  have he1 := qg hy1
  obtain ⟨b1, o_1, q1, cs2, hp1, hq1, -, hr1, hc2⟩ := s1.at hy1
  obtain rfl := hr1
  refine zxe hp1 hq1 he1 rfl (zc 0 (hc2.below h.below) rfl (zp2 rfl (zNSR (zp3 rfl ?_))))
  by_cases hc3 : (i1 == 0) = true
  ·replace hF := bifT hc3 hF
   refine qF hc3 (t := 15) rfl (qa rfl (zp1 rfl (qa rfl (zp1 rfl (qa rfl (zp1 rfl ?_))))))
   by_cases hc4 : (y1 != (-1)) = true
   ·replace hF := bifT hc4 hF
    refine qF hc4 (t := 18) rfl (zn5 rfl (qa rfl (zp3 rfl (zn2 rfl ?_))))
    refine zn5 rfl (zn2 rfl (zp1 rfl (qb (qeN rfl rfl (zSR ?_)))))
    refine zp1 rfl (qb ?_)
    obtain rfl := qh hF; replace hF := hK1
    exact qv qc h hF ⟨rfl, trivial⟩
   replace hc4 := zb hc4
   replace hF := bifF hc4 hF
   refine qE hc4 (t := 18) rfl (qa rfl (zp1 rfl (qa rfl (zl 0 1 h rfl (qa rfl ?_)))))
   obtain ⟨y2, hy2, hF⟩ := qd hF
   have he2 := qg hy2
   obtain ⟨b2, o_2, q2, cs3, hp2, hq2, -, hr2, hc5⟩ := s2.at hy2
   obtain rfl := hr2
   refine zxe hp2 hq2 he2 rfl (qa rfl (zc 0 (hc5.below h.below) rfl (qa rfl (zp1 rfl (qa rfl (zp3 rfl ?_))))))
   by_cases hc6 : (y2 != 0) = true
   ·replace hF := bifT hc6 hF
    refine qF hc6 (t := 26) rfl (zn5 rfl (zn4 rfl (zp1 rfl (qb ?_))))
    refine qeN rfl rfl (zSR (zp1 rfl (qb ?_)))
    obtain rfl := qh hF; replace hF := hK1
    exact qv qc h hF ⟨rfl, trivial⟩
   replace hc6 := zb hc6
   replace hF := bifF hc6 hF
   refine qE hc6 (t := 26) rfl (qa rfl (zp1 rfl (qa rfl (zp1 rfl (qa rfl (zp1 rfl ?_))))))
   by_cases hc7 : (decide (i1 > 0)) = true
   ·replace hF := bifT hc7 hF
    refine qF hc7 (t := 29) rfl (qa rfl (zp1 rfl (qa rfl (zp1 rfl (qa rfl (zp1 rfl (qa rfl ?_)))))))
    obtain ⟨r1, hr3, hF⟩ := qd hF
    refine qp r1 h call86 (qap hr3) rfl rfl rfl rfl ?_
    intro w3 h
    refine qa rfl (zp1 rfl (qa rfl (zp2 rfl (qb ?_))))
    refine qq rfl hF ?_ ?_ <;> intro hF
    ·refine zSR (zp1 rfl (qb ?_))
     obtain rfl := qh hF; replace hF := hK1
     exact qv qc h hF ⟨rfl, trivial⟩
    exact zKER (zp2 rfl (qb (qA m1 [(1, _), (6, _), (7, _), (8, _)] (Nat.lt_succ_self m1) ⟨rfl, rfl, rfl, rfl, trivial⟩ ⟨_, hF, rfl, h⟩)))
   replace hc7 := zb hc7
   replace hF := bifF hc7 hF
   refine qE hc7 (t := 29) rfl (zn5 rfl (qa rfl (zp2 rfl (qb (qey rfl rfl (qdO ?_))))))
   exact qfE (qz (zp2 rfl (qb (qA m1 [(1, _), (6, _), (7, _), (8, _)] (Nat.lt_succ_self m1) ⟨rfl, rfl, rfl, rfl, trivial⟩ ⟨_, hF, rfl, h⟩))))
  replace hc3 := zb hc3
  replace hF := bifF hc3 hF
  refine qE hc3 (t := 15) rfl (zn5 rfl (zn4 rfl (zp2 rfl ?_)))
  refine qa rfl (zp1 rfl (qa rfl (zp1 rfl (qa rfl (zp1 rfl ?_)))))
  by_cases hc9 : (decide (i1 > 0)) = true
  ·replace hF := bifT hc9 hF
   refine qF hc9 (t := 29) rfl (qa rfl (zp1 rfl (qa rfl (zp1 rfl (qa rfl (zp1 rfl (qa rfl ?_)))))))
   obtain ⟨r2, hr4, hF⟩ := qd hF
   refine qp r2 h call86 (qap hr4) rfl rfl rfl rfl ?_
   intro w4 h
   refine qa rfl (zp1 rfl (qa rfl (zp2 rfl (qb ?_))))
   refine qq rfl hF ?_ ?_ <;> intro hF
   ·refine zSR (zp1 rfl (qb ?_))
    obtain rfl := qh hF; replace hF := hK1
    exact qv qc h hF ⟨rfl, trivial⟩
   exact zKER (zp2 rfl (qb (qA m1 [(1, _), (6, _), (7, _), (8, _)] (Nat.lt_succ_self m1) ⟨rfl, rfl, rfl, rfl, trivial⟩ ⟨_, hF, rfl, h⟩)))
  replace hc9 := zb hc9
  replace hF := bifF hc9 hF
  refine qE hc9 (t := 29) rfl (zn5 rfl (qa rfl (zp2 rfl (qb (qey rfl rfl (qdO ?_))))))
  exact qfE (qz (zp2 rfl (qb (qA m1 [(1, _), (6, _), (7, _), (8, _)] (Nat.lt_succ_self m1) ⟨rfl, rfl, rfl, rfl, trivial⟩ ⟨_, hF, rfl, h⟩))))
 refine qI rfl ?_
 obtain rfl := qh hF; replace hF := hK1
 exact zSR (zp1 rfl (qb (qv qc h hF ⟨rfl, trivial⟩)))

def qhN (n : Nat) (a_w : qQ) (sinks : Int) : Option Bool :=
 (qas n a_w.Parent).bind fun r1 =>
 (qaI n r1 1 8).bind fun r2 =>
 bif r2 then
  (qas n a_w.Res).bind fun r3 =>
  bif (r3 == r1) then
   (qas n a_w.Cap).bind fun r4 =>
   bif (r4 == r1) then
    (qe5 n a_w).bind fun r5 =>
    bif r5 then
     (qby n a_w.Res 0 1000).bind fun r6 =>
     bif r6 then
      (qby n a_w.Cap 0 500).bind fun r7 =>
      bif r7 then
       (qas n a_w.Sink).bind fun r8 =>
       bif (r8 == sinks) then
        (qby n a_w.Sink 0 (W64 (r1 - 1))).bind fun r9 =>
        some r9
       else
        some false
      else
       some false
     else
      some false
    else
     some false
   else
    some false
  else
   some false
 else
  some false

theorem qlG {n : Nat} {w : World} {a_w : qQ} {sinks : Int} {cs1 : List Value} (ha1 : GoT.R w (old w) a_w cs1) {r : Bool} (hF : qhN n a_w sinks = some r) : RetV Tryz.prog 149 [GoT.v qQ cs1, .int .i64 sinks] w r := by
 obtain ⟨p1, k1, p2, k2, p3, k3, p4, k4, rfl, s1, s2, s3, s4⟩ := qbu ha1
 refine qe Tryz.func149 rfl (m := 53) rfl rfl (fun h => ?_)
 rw [qhN] at hF
 refine zSR (qP h rfl rfl ?_)
 intro w1 bb1 h
 refine zp1 rfl (zNSR (zp1 rfl (zl 0 0 h rfl ?_)))
 obtain ⟨r1, hr1, hF⟩ := qd hF
 refine qU r1 h call87 (qbp ⟨_, _, rfl, (h.oldS s1)⟩ hr1) rfl rfl rfl rfl ?_
 intro w2 h
 refine zp1 rfl (zNSR (zp1 rfl ?_))
 obtain ⟨r2, hr2, hF⟩ := qd hF
 refine qp r2 h call86 (qap hr2) rfl rfl rfl rfl ?_
 intro w3 h
 refine zp1 rfl ?_
 by_cases hc1 : r2 = true
 ·replace hF := bifT hc1 hF
  refine qF hc1 (t := 11) rfl (qa rfl (zp1 rfl (qa rfl (zl 0 1 h rfl (qa rfl ?_)))))
  obtain ⟨r3, hr3, hF⟩ := qd hF
  refine qU r3 h call87 (qbp ⟨_, _, rfl, (h.oldS s2)⟩ hr3) rfl rfl rfl rfl ?_
  intro w4 h
  refine qa rfl (zp1 rfl (qa rfl (zp3 rfl ?_)))
  by_cases hc2 : (r3 == r1) = true
  ·replace hF := bifT hc2 hF
   refine qF hc2 (t := 18) rfl (qa rfl (zp1 rfl (qa rfl (zl 0 2 h rfl (qa rfl ?_)))))
   obtain ⟨r4, hr4, hF⟩ := qd hF
   refine qU r4 h call87 (qbp ⟨_, _, rfl, (h.oldS s3)⟩ hr4) rfl rfl rfl rfl ?_
   intro w5 h
   refine qa rfl (zp1 rfl (qa rfl (zp3 rfl ?_)))
   by_cases hc3 : (r4 == r1) = true
   ·replace hF := bifT hc3 hF
    refine qF hc3 (t := 25) rfl (qa rfl (zl 0 0 h rfl (qa rfl ?_)))
    obtain ⟨r5, hr5, hF⟩ := qd hF
    refine qp r5 h call185 (qjN (h.old ha1) hr5) rfl rfl rfl rfl ?_
    intro w6 h
    refine zp2 rfl ?_
    by_cases hc4 : r5 = true
    ·replace hF := bifT hc4 hF
     refine qF hc4 (t := 29) rfl (qa rfl (zp1 rfl (qa rfl (zl 0 1 h rfl (qa rfl ?_)))))
     obtain ⟨r6, hr6, hF⟩ := qd hF
     refine qp r6 h call112 (qcL ⟨_, _, rfl, (h.oldS s2)⟩ hr6) rfl rfl rfl rfl ?_
     intro w7 h
     refine zp2 rfl ?_
     by_cases hc5 : r6 = true
     ·replace hF := bifT hc5 hF
      refine qF hc5 (t := 34) rfl (qa rfl (zp1 rfl (qa rfl (zl 0 2 h rfl (qa rfl ?_)))))
      obtain ⟨r7, hr7, hF⟩ := qd hF
      refine qp r7 h call112 (qcL ⟨_, _, rfl, (h.oldS s3)⟩ hr7) rfl rfl rfl rfl ?_
      intro w8 h
      refine zp2 rfl ?_
      by_cases hc6 : r7 = true
      ·replace hF := bifT hc6 hF
       refine qF hc6 (t := 39) rfl (qa rfl (zp1 rfl (qa rfl (zl 0 3 h rfl (qa rfl ?_)))))
       obtain ⟨r8, hr8, hF⟩ := qd hF
       refine qU r8 h call87 (qbp ⟨_, _, rfl, (h.oldS s4)⟩ hr8) rfl rfl rfl rfl ?_
       intro w9 h
       refine qa rfl (zp1 rfl (qa rfl (zp3 rfl ?_)))
       by_cases hc7 : (r8 == sinks) = true
       ·replace hF := bifT hc7 hF
        refine qF hc7 (t := 46) rfl (qa rfl (zp1 rfl (qa rfl (zl 0 3 h rfl (qa rfl (zp1 rfl (qa rfl (zp1 rfl (qa rfl ?_)))))))))
        obtain ⟨r9, hr9, hF⟩ := qd hF
        refine qp r9 h call112 (qcL ⟨_, _, rfl, (h.oldS s4)⟩ hr9) rfl rfl rfl rfl ?_
        intro w10 h
        exact zp2 rfl (qb (qv qc h hF ⟨rfl, trivial⟩))
       replace hc7 := zb hc7
       replace hF := bifF hc7 hF
       exact qE hc7 (t := 46) rfl (zn5 rfl (zp2 rfl (qb (qv qc h hF ⟨rfl, trivial⟩))))
      replace hc6 := zb hc6
      replace hF := bifF hc6 hF
      refine qE hc6 (t := 39) rfl (zn5 rfl (zp2 rfl (zn4 rfl ?_)))
      exact zn1 rfl (zp2 rfl (qb (qv qc h hF ⟨rfl, trivial⟩)))
     replace hc5 := zb hc5
     replace hF := bifF hc5 hF
     refine qE hc5 (t := 34) rfl (zn3 rfl (zp2 rfl (zn5 rfl (zp1 rfl ?_))))
     exact zp1 rfl (zn5 rfl (zp2 rfl (qb (qv qc h hF ⟨rfl, trivial⟩))))
    replace hc4 := zb hc4
    replace hF := bifF hc4 hF
    refine qE hc4 (t := 29) rfl (zn3 rfl (zp2 rfl (zn3 rfl (zp2 rfl (zn1 rfl ?_)))))
    refine zn4 rfl (zp2 rfl (zn5 rfl (zp1 rfl ?_)))
    exact zp1 rfl (qb (qv qc h hF ⟨rfl, trivial⟩))
   replace hc3 := zb hc3
   replace hF := bifF hc3 hF
   refine qE hc3 (t := 25) rfl (zn2 rfl (zp2 rfl (zn3 rfl (zp2 rfl (zn2 rfl ?_)))))
   refine zn1 rfl (zp2 rfl (zn5 rfl (zp2 rfl (zn2 rfl ?_))))
   exact zn3 rfl (zp2 rfl (qb (qv qc h hF ⟨rfl, trivial⟩)))
  replace hc2 := zb hc2
  replace hF := bifF hc2 hF
  refine qE hc2 (t := 18) rfl (zn5 rfl (zp2 rfl (zn2 rfl (zp2 rfl ?_))))
  refine zn3 rfl (zp2 rfl (zn3 rfl (zp2 rfl (zn2 rfl ?_))))
  refine zn3 rfl (zp2 rfl (zn5 rfl (zp2 rfl ?_)))
  exact qb (qv qc h hF ⟨rfl, trivial⟩)
 replace hc1 := zb hc1
 replace hF := bifF hc1 hF
 refine qE hc1 (t := 11) rfl (zn5 rfl (zp2 rfl (zn4 rfl ?_)))
 refine zn1 rfl (zp2 rfl (zn2 rfl (zp2 rfl (zn3 rfl (zp2 rfl ?_)))))
 refine zn3 rfl (zp2 rfl (zn5 rfl (zp2 rfl ?_)))
 exact zn5 rfl (zp2 rfl (qb (qv qc h hF ⟨rfl, trivial⟩)))

def qc0 (b : qD) (x2 : (List Int)) : Nat → Int → Option (Flow Bool Int)
 | 0, _ => none
 | n + 1, i2 =>
  bif decide (i2 < (b.Wires.length : Int)) then
   (idx b.Wires i2).bind fun y4 =>
   (idx x2 i2).bind fun y5 =>
   (qhN n y4 y5).bind fun r2 =>
   bif (!r2) then
    some (.ret false)
   else
    qc0 b x2 n (W64 (i2 + 1))
  else
   some (.nxt i2)

def qb1 (r1 : (List Tplace)) : Nat → (List Int) → Int → Option ((List Int) × Int)
 | 0, _, _ => none
 | n + 1, x2, i1 =>
  bif decide (i1 < (r1.length : Int)) then
   (idx r1 i1).bind fun y1 =>
   bif (!y1.drives) then
    (idx x2 y1.net).bind fun y2 =>
    (idx x2 y1.net).bind fun _ =>
    qb1 r1 n (setS x2 y1.net (W64 (y2 + 1))) (W64 (i1 + 1))
   else
    qb1 r1 n x2 (W64 (i1 + 1))
  else
   some (x2, i1)

def qgU (n : Nat) (b : qD) : Option Bool :=
 (
  (qga n (⟨b.Library.Cells⟩ : qx) (⟨b.Design.Instances, b.Design.Nets, b.Design.Ports⟩ : ql)).bind fun r3 =>
  bif (!r3) then
   some true
  else
   some ((b.Wires.length : Int) != (b.Design.Nets.length : Int))).bind fun b1 =>
 bif b1 then
  some false
 else
  (mkS (b.Wires.length : Int) (0 : Int)).bind fun x1 =>
  (qbT n (⟨b.Design.Instances, b.Design.Nets, b.Design.Ports⟩ : ql)).bind fun r1 =>
  (qb1 r1 n x1 0).bind fun o => match o with
  | (x2, _) =>
   (qc0 b x2 n 0).bind fun o => match o with
   | .ret r => some r
   | .nxt _ =>
    some true

theorem qlp {n : Nat} {w : World} {b : qD} {cs1 : List Value} (ha1 : GoT.R w (old w) b cs1) {r : Bool} (hF : qgU n b = some r) : RetV Tryz.prog 108 [GoT.v qD cs1] w r := by
 obtain ⟨p1, k1, p2, k2, p3, k3, p4, k4, p5, k5, rfl, s1, s2, s3, s4, s5⟩ := qax ha1
 refine qe Tryz.func108 rfl (m := 63) rfl rfl (fun h => ?_)
 rw [qgU] at hF
 refine zSR (qP h rfl rfl ?_)
 intro w1 bb1 h
 refine zp1 rfl (zNSS ?_)
 obtain ⟨KF1, hKF1, o3, hF, hK3⟩ := bindE hF
 refine qeG (fun e w' => ∃ (b1 : Bool), KF1 b1 = some r ∧ e = [(1, .pointer (some ⟨bb1, 0, none⟩)), (23, .bool b1)] ∧ SH w w' [Ch.box bb1 [.slice p1 b.Library.Cells.length k1, .slice p2 b.Design.Instances.length k2, .slice p3 b.Design.Nets.length k3, .slice p4 b.Design.Ports.length k4, .slice p5 b.Wires.length k5] 50]) ?_ ?_
 ·refine qz (zp1 rfl (zl 0 0 h rfl (zp1 rfl (zl 0 1 h rfl ?_))))
  obtain ⟨r3, hr8, hF⟩ := qd hF
  refine qp r3 h call147 (qkG (qe9 (⟨b.Library.Cells⟩ : qx) (h.oldS s1)) (qck (⟨b.Design.Instances, b.Design.Nets, b.Design.Ports⟩ : ql) (h.oldS s2) (h.oldS s3) (h.oldS s4)) hr8) rfl rfl rfl rfl ?_
  intro w12 h
  refine zp2 rfl ?_
  by_cases hc11 : (!r3) = true
  ·replace hF := bifT hc11 hF
   refine qF hc11 (t := 14) rfl (zn5 rfl (zn3 rfl (zp1 rfl (qb ?_))))
   obtain rfl := qh hF
   exact qy [(1, _), (23, _)] ⟨rfl, rfl, trivial⟩ ⟨_, hK3, rfl, h⟩
  replace hc11 := zb hc11
  replace hF := bifF hc11 hF
  refine qE hc11 (t := 14) rfl (qa rfl (zp1 rfl (qa rfl (zl 0 4 h rfl (qa rfl (zp1 rfl (qa rfl (zp1 rfl (qa rfl (zp1 rfl (qa rfl ?_)))))))))))
  refine zl 0 2 h rfl (qa rfl (zp1 rfl (qa rfl (zp2 rfl (qb ?_)))))
  obtain rfl := qh hF
  exact qy [(1, _), (23, _)] ⟨rfl, rfl, trivial⟩ ⟨_, hK3, rfl, h⟩
 rintro e3 w13 ⟨b1, hF, rfl, h⟩
 subst hKF1
 refine qq rfl hF ?_ ?_ <;> intro hF
 ·exact zSR (zp1 rfl (qb (qv qc h hF ⟨rfl, trivial⟩)))
 refine zKSR (zp1 rfl (zl 0 4 h rfl (zp1 rfl ?_)))
 obtain ⟨x1, hx1, hF⟩ := qd hF
 obtain ⟨g1, g2, hx1⟩ := qdx hx1
 refine qeB qc Int h rfl rfl rfl rfl rfl rfl rfl rfl rfl g1 g2 hx1 rfl ?_
 intro w2 S1 p6 h
 refine zp1 rfl (zNSSR (zp1 rfl (zl 1 1 h rfl ?_)))
 obtain ⟨r1, hr1, hF⟩ := qd hF
 refine qam r1 h call148 (qeh (qck (⟨b.Design.Instances, b.Design.Nets, b.Design.Ports⟩ : ql) (h.oldS s2) (h.oldS s3) (h.oldS s4)) hr1) rfl rfl rfl rfl ?_
 intro w3 S2 p7 k6 h
 refine zp2 rfl (qb ?_)
 obtain ⟨o1, hF, hK1⟩ := qd hF
 refine qw (qR [(1, _), (3, _), (30, _), (31, _), (32, _)] ⟨rfl, rfl, rfl, rfl, rfl, trivial⟩ ?_)
 refine qH (fun m e w' => ∃ (x2 : (List Int)) (i1 : Int), qb1 r1 m x2 i1 = some o1 ∧ e = [(1, .pointer (some ⟨bb1, 0, none⟩)), (3, .slice p6 x1.length x1.length), (30, .slice p7 r1.length k6), (31, .int .i64 (r1.length : Int)), (32, .int .i64 i1)] ∧ SH w w' [Ch.own S2 (r1 : List Tplace) [.slice p7 r1.length k6], Ch.own S1 (x2 : List Int) [.slice p6 x1.length x1.length], Ch.box bb1 [.slice p1 b.Library.Cells.length k1, .slice p2 b.Design.Instances.length k2, .slice p3 b.Design.Nets.length k3, .slice p4 b.Design.Ports.length k4, .slice p5 b.Wires.length k5] 50]) n ⟨_, _, hF, rfl, h⟩ ?_
 rintro m1 e1 w4 ⟨x2, i1, hF, rfl, h⟩
 rcases m1 with _ | m1
 ·rw [qb1] at hF
  cases hF
 rw [qb1] at hF
 refine zSR (zp1 rfl (zNS ?_))
 refine qq rfl hF ?_ ?_ <;> intro hF
 ·refine zKSBSR ?_
  obtain ⟨y1, hy1, hF⟩ := qd hF
  have he1 := qg hy1
  obtain ⟨b2, o_1, q1, cs2, hp1, hq1, -, hr2, hc3⟩ := (h.sl 0 rfl).1.at hy1
  obtain rfl := qhO hr2
  refine zx hp1 hq1 ⟨he1.1, qac he1.2.1 (h.sl 0 rfl).2⟩ rfl (zc 0 hc3 rfl (qah qc h rfl rfl rfl ?_))
  intro w5 bb2 h
  refine zs 0 h rfl ?_
  intro w6 h
  refine zNSR (zp1 rfl (zl 0 3 h rfl (zp1 rfl (qb ?_))))
  refine qq rfl hF ?_ ?_ <;> intro hF
  ·refine qz (zp2 rfl (zl 0 2 h rfl ?_))
   obtain ⟨y2, hy2, hF⟩ := qd hF
   have he2 := qg hy2
   obtain ⟨b3, o_2, q2, cs3, hp2, hq2, -, hr3, hc5⟩ := (h.sl 2 rfl).1.at hy2
   obtain rfl := hr3
   refine zx hp2 hq2 ⟨he2.1, qac he2.2.1 (h.sl 2 rfl).2⟩ rfl (zc 0 hc5 rfl (zp1 rfl ?_))
   obtain ⟨y3, hy3, hF⟩ := qd hF
   have he3 := qg hy3
   obtain ⟨b4, o_3, q3, cs4, hp3, hq3, -, hr4, hc6⟩ := (h.sl 2 rfl).1.at hy3
   obtain rfl := hr4
   refine zx hp3 hq3 ⟨he3.1, qac he3.2.1 (h.sl 2 rfl).2⟩ rfl (qcH qc 2 0 (W64 (y2 + 1)) h rfl hy3 hp3 hq3 rfl hc6 rfl rfl rfl rfl rfl rfl rfl ?_)
   intro w7 h
   refine zNER (zp2 rfl (qb ?_))
   replace h := h.pick [1, 2, 3] rfl
   exact qA m1 [(1, _), (3, _), (30, _), (31, _), (32, _)] (Nat.lt_succ_self m1) ⟨rfl, rfl, rfl, rfl, rfl, trivial⟩ ⟨_, _, hF, rfl, h⟩
  refine zKER (zp2 rfl (qb ?_))
  replace h := h.pick [1, 2, 3] rfl
  exact qA m1 [(1, _), (3, _), (30, _), (31, _), (32, _)] (Nat.lt_succ_self m1) ⟨rfl, rfl, rfl, rfl, rfl, trivial⟩ ⟨_, _, hF, rfl, h⟩
 refine qI rfl ?_
 obtain rfl := qh hF; replace hF := hK1
 refine zSSR (zp1 rfl (zl 2 4 h rfl (zp2 rfl (qb ?_))))
 obtain ⟨o2, hF, hK2⟩ := qd hF
 refine qw ?_
 replace h := h.pick [1] rfl
 refine qR [(3, _), (48, _), (49, _), (50, _)] ⟨rfl, rfl, rfl, rfl, trivial⟩ ?_
 refine qH (fun m e w' => ∃ (i2 : Int), qc0 b x2 m i2 = some o2 ∧ e = [(3, .slice p6 x1.length x1.length), (48, .slice p5 b.Wires.length k5), (49, .int .i64 (b.Wires.length : Int)), (50, .int .i64 i2)] ∧ SH w w' [Ch.own S1 (x2 : List Int) [.slice p6 x1.length x1.length]]) n ⟨_, hF, rfl, h⟩ ?_
 rintro m2 e2 w8 ⟨i2, hF, rfl, h⟩
 rcases m2 with _ | m2
 ·rw [qc0] at hF
  cases hF
 rw [qc0] at hF
 refine zSR (zp1 rfl (zNS ?_))
 refine qq rfl hF ?_ ?_ <;> intro hF
 ·refine zKSBSR (zp1 rfl ?_)
  obtain ⟨y4, hy4, hF⟩ := qd hF
  have he4 := qg hy4
  obtain ⟨b5, o_4, q4, cs5, hp4, hq4, -, hr5, hc8⟩ := s5.at hy4
  obtain ⟨p8, k7, p9, k8, p10, k9, p11, k10, rfl, s6, s7, s8, s9⟩ := qbu hr5
  refine zxe hp4 hq4 he4 rfl (zc 0 (hc8.below h.below) rfl (qah qc h rfl rfl rfl ?_))
  intro w9 bb3 h
  refine zp1 rfl (zs 0 h rfl ?_)
  intro w10 h
  replace h : SH _ _ [Ch.box bb3 [.slice p8 y4.Parent.length k7, .slice p9 y4.Res.length k8, .slice p10 y4.Cap.length k9, .slice p11 y4.Sink.length k10] 130, Ch.own S1 (x2 : List Int) [.slice p6 x1.length x1.length]] := h
  refine zNS ?_
  refine qcU rfl (by kernel_rfl) ?_
  refine zdl 0 0 h rfl ?_
  refine zd2 rfl ?_
  obtain ⟨y5, hy5, hF⟩ := qd hF
  have he5 := qg hy5
  obtain ⟨b6, o_5, q5, cs6, hp5, hq5, -, hr6, hc9⟩ := (h.sl 1 rfl).1.at hy5
  obtain rfl := hr6
  refine zdx hp5 hq5 ⟨he5.1, qac he5.2.1 (h.sl 1 rfl).2⟩ rfl ?_
  refine zdc 0 hc9 rfl ?_
  obtain ⟨r2, hr7, hF⟩ := qd hF
  refine qcn r2 (vsB _) call149 (fun _ hb => qlG (qh2 y4 ((h.ext hb).oldS s6) ((h.ext hb).oldS s7) ((h.ext hb).oldS s8) ((h.ext hb).oldS s9)) hr7) rfl rfl rfl rfl ?_
  refine zd1 rfl ?_
  refine qbk (fun w11 hb => ?_)
  replace h := h.ext hb
  clear hb
  refine qq rfl hF ?_ ?_ <;> intro hF
  ·refine zSR (zp1 rfl (qb ?_))
   obtain rfl := qh hF; replace hF := hK2
   exact qv qc h hF ⟨rfl, trivial⟩
  refine zKER (zp2 rfl (qb ?_))
  replace h := h.pick [1] rfl
  exact qA m2 [(3, _), (48, _), (49, _), (50, _)] (Nat.lt_succ_self m2) ⟨rfl, rfl, rfl, rfl, trivial⟩ ⟨_, hF, rfl, h⟩
 refine qI rfl ?_
 obtain rfl := qh hF; replace hF := hK2
 exact zSR (zp1 rfl (qb (qv qc h hF ⟨rfl, trivial⟩)))

end Go.Fw


namespace Go.Fw
open Go

def qao (a : (List Int)) : Nat := a.length
theorem qcu {a : (List Int)} (h : (rngL rngI) a) (w : qao a ≤ 1048576) : (okL okI) a :=
  ⟨by simp only [qao] at w; omega, fun x hx => h.2 x hx⟩
def qgm (x : qC) : Prop := (rngL rngI) x.Slews ∧ (rngL rngI) x.Loads ∧ (rngL rngI) x.Values
def qdQ (x : qC) : Nat := qao x.Slews + qao x.Loads + qao x.Values
structure qgS (x : qC) : Prop where
  Slews : (okL okI) x.Slews
  Loads : (okL okI) x.Loads
  Values : (okL okI) x.Values
theorem qop {x : qC} (h : qgm x) (w : qdQ x ≤ 1048576) : qgS x := ⟨qcu (h.1) (by simp only [qdQ] at w; omega), qcu (h.2.1) (by simp only [qdQ] at w; omega), qcu (h.2.2) (by simp only [qdQ] at w; omega)⟩
def qda (a : (List qC)) : Nat := a.length + (a.map fun x => qdQ x).sum
theorem qkV {a : (List qC)} (h : (rngL qgm) a) (w : qda a ≤ 1048576) : (okL qgS) a :=
  ⟨by simp only [qda] at w; omega, fun x hx => qop (h.2 x hx) (by have := qcb (wt := fun x : qC => qdQ x) hx; simp only [qda] at w; omega)⟩
def qiL (x : qX) : Prop := rngI x.Kind ∧ rngI x.From ∧ rngI x.To ∧ rngI x.Sense ∧ (rngL qgm) x.Delay ∧ (rngL qgm) x.Slew
def qhd (x : qX) : Nat := qda x.Delay + qda x.Slew
structure qkf (x : qX) : Prop where
  Kind : okI x.Kind
  From : okI x.From
  To : okI x.To
  Sense : okI x.Sense
  Delay : (okL qgS) x.Delay
  Slew : (okL qgS) x.Slew
theorem qqr {x : qX} (h : qiL x) (w : qhd x ≤ 1048576) : qkf x := ⟨h.1, h.2.1, h.2.2.1, h.2.2.2.1, qkV (h.2.2.2.2.1) (by simp only [qhd] at w; omega), qkV (h.2.2.2.2.2) (by simp only [qhd] at w; omega)⟩
theorem qcV {a : (List Int)} (h : qao a ≤ 1048576) : Ev (fun n => qaz n a a) true := by
  have hl : a.length ≤ 1048576 := by simp only [qao] at h; omega
  unfold qaz
  exact Ev.ff (by simp) (Ev.bind (b := .nxt (a.length : Int)) (qhx (eqf := fun _ x y => some (!(x != y))) (fun x _ => Ev.now (by simp))
    (fun n => by simp only [qdg, qu (Nat.le_refl _), cond_false])
    (fun n j x hx => by
      have hj := (List.getElem?_eq_some_iff.1 hx).1
      simp only [qdg, qt hj, cond_true, qav hx, Option.bind_some, Bool.not_not, qr (show j < 9223372036854775807 by omega)])) .done)

theorem qpU {a : qC} (h : qdQ a ≤ 1048576) : Ev (fun n => qfQ n a a) true := by
  unfold qfQ
  simp only [qdQ] at h
  exact Ev.bind (qcV (a := a.Slews) (by omega)) (Ev.ff rfl (Ev.bind (qcV (a := a.Loads) (by omega)) (Ev.ff rfl (Ev.bind (qcV (a := a.Values) (by omega)) (Ev.ff rfl (.done))))))

theorem qmL {a : (List qC)} (h : qda a ≤ 1048576) : Ev (fun n => qfr n a a) true := by
  have hl : a.length ≤ 1048576 := by simp only [qda] at h; omega
  unfold qfr
  exact Ev.ff (by simp) (Ev.bind (b := .nxt (a.length : Int)) (qhx (eqf := qfQ) (fun x hx => qpU (by have := qcb (wt := fun x : qC => qdQ x) hx; simp only [qda] at h; omega))
    (fun n => by simp only [qdn, qu (Nat.le_refl _), cond_false])
    (fun n j x hx => by
      have hj := (List.getElem?_eq_some_iff.1 hx).1
      simp only [qdn, qt hj, cond_true, qav hx, Option.bind_some, qr (show j < 9223372036854775807 by omega)])) .done)

theorem qrx {a : qX} (h : qhd a ≤ 1048576) : Ev (fun n => qhn n a a) true := by
  unfold qhn
  simp only [qhd] at h
  exact Ev.ff qbD (Ev.ff qbD (Ev.ff qbD (Ev.ff qbD (Ev.bind (qmL (a := a.Delay) (by omega)) (Ev.ff rfl (Ev.bind (qmL (a := a.Slew) (by omega)) (Ev.ff rfl (.done))))))))

def qf1 (a : (List qX)) : Nat := a.length + (a.map fun x => qhd x).sum
theorem qpu {a : (List qX)} (h : (rngL qiL) a) (w : qf1 a ≤ 1048576) : (okL qkf) a :=
  ⟨by simp only [qf1] at w; omega, fun x hx => qqr (h.2 x hx) (by have := qcb (wt := fun x : qX => qhd x) hx; simp only [qf1] at w; omega)⟩
theorem qqS {a : (List qX)} (h : qf1 a ≤ 1048576) : Ev (fun n => qhJ n a a) true := by
  have hl : a.length ≤ 1048576 := by simp only [qf1] at h; omega
  unfold qhJ
  exact Ev.ff (by simp) (Ev.bind (b := .nxt (a.length : Int)) (qhx (eqf := qhn) (fun x hx => qrx (by have := qcb (wt := fun x : qX => qhd x) hx; simp only [qf1] at h; omega))
    (fun n => by simp only [qd8, qu (Nat.le_refl _), cond_false])
    (fun n j x hx => by
      have hj := (List.getElem?_eq_some_iff.1 hx).1
      simp only [qd8, qt hj, cond_true, qav hx, Option.bind_some, qr (show j < 9223372036854775807 by omega)])) .done)

def qiU (x : qag) : Prop := rngS x.Name ∧ rngI x.Dir ∧ rngI x.Cap ∧ rngB x.Clock
def qia (x : qag) : Nat := x.Name.size
structure qjd (x : qag) : Prop where
  Name : okS x.Name
  Dir : okI x.Dir
  Cap : okI x.Cap
  Clock : okT x.Clock
theorem qpZ {x : qag} (h : qiU x) (w : qia x ≤ 1048576) : qjd x := ⟨(by unfold okS; simp only [qia] at w; omega), h.2.1, h.2.2.1, trivial⟩
def qf0 (a : (List qag)) : Nat := a.length + (a.map fun x => qia x).sum
theorem qpI {a : (List qag)} (h : (rngL qiU) a) (w : qf0 a ≤ 1048576) : (okL qjd) a :=
  ⟨by simp only [qf0] at w; omega, fun x hx => qpZ (h.2 x hx) (by have := qcb (wt := fun x : qag => qia x) hx; simp only [qf0] at w; omega)⟩
def qh9 (x : qB) : Prop := rngS x.Name ∧ rngI x.Kind ∧ (rngL qiU) x.Pins ∧ (rngL qiL) x.Arcs ∧ (rngL rngI) x.Truth ∧ rngI x.Leak ∧ rngI x.Energy
def qeZ (x : qB) : Nat := x.Name.size + qf0 x.Pins + qf1 x.Arcs + qao x.Truth
structure qjF (x : qB) : Prop where
  Name : okS x.Name
  Kind : okI x.Kind
  Pins : (okL qjd) x.Pins
  Arcs : (okL qkf) x.Arcs
  Truth : (okL okI) x.Truth
  Leak : okI x.Leak
  Energy : okI x.Energy
theorem qpe {x : qB} (h : qh9 x) (w : qeZ x ≤ 1048576) : qjF x := ⟨(by unfold okS; simp only [qeZ] at w; omega), h.2.1, qpI (h.2.2.1) (by simp only [qeZ] at w; omega), qpu (h.2.2.2.1) (by simp only [qeZ] at w; omega), qcu (h.2.2.2.2.1) (by simp only [qeZ] at w; omega), h.2.2.2.2.2.1, h.2.2.2.2.2.2⟩
def qfc (a : (List qB)) : Nat := a.length + (a.map fun x => qeZ x).sum
theorem qoO {a : (List qB)} (h : (rngL qh9) a) (w : qfc a ≤ 1048576) : (okL qjF) a :=
  ⟨by simp only [qfc] at w; omega, fun x hx => qpe (h.2 x hx) (by have := qcb (wt := fun x : qB => qeZ x) hx; simp only [qfc] at w; omega)⟩
def qim (x : qx) : Prop := (rngL qh9) x.Cells
def qdT (x : qx) : Nat := qfc x.Cells
structure qgj (x : qx) : Prop where
  Cells : (okL qjF) x.Cells
theorem qnB {x : qx} (h : qim x) (w : qdT x ≤ 1048576) : qgj x := ⟨qoO (h) (by simp only [qdT] at w; omega)⟩
def qfa (x : qk) : Prop := rngS x.Name ∧ rngI x.Cell ∧ (rngL rngI) x.Nets
def qbH (x : qk) : Nat := x.Name.size + qao x.Nets
structure qje (x : qk) : Prop where
  Name : okS x.Name
  Cell : okI x.Cell
  Nets : (okL okI) x.Nets
theorem qmw {x : qk} (h : qfa x) (w : qbH x ≤ 1048576) : qje x := ⟨(by unfold okS; simp only [qbH] at w; omega), h.2.1, qcu (h.2.2) (by simp only [qbH] at w; omega)⟩
def qbS (a : (List qk)) : Nat := a.length + (a.map fun x => qbH x).sum
theorem ql2 {a : (List qk)} (h : (rngL qfa) a) (w : qbS a ≤ 1048576) : (okL qje) a :=
  ⟨by simp only [qbS] at w; omega, fun x hx => qmw (h.2 x hx) (by have := qcb (wt := fun x : qk => qbH x) hx; simp only [qbS] at w; omega)⟩
def qdW (a : (List ByteArray)) : Nat := a.length + (a.map fun x => x.size).sum
theorem qnl {a : (List ByteArray)} (_ : (rngL rngS) a) (w : qdW a ≤ 1048576) : (okL okS) a :=
  ⟨by simp only [qdW] at w; omega, fun x hx => (by unfold okS; have := qcb (wt := fun x : ByteArray => x.size) hx; simp only [qdW] at w; omega)⟩
def qh8 (x : qV) : Prop := rngS x.Name ∧ rngI x.Dir ∧ rngI x.Net
def qgi (x : qV) : Nat := x.Name.size
structure qne (x : qV) : Prop where
  Name : okS x.Name
  Dir : okI x.Dir
  Net : okI x.Net
theorem qo9 {x : qV} (h : qh8 x) (w : qgi x ≤ 1048576) : qne x := ⟨(by unfold okS; simp only [qgi] at w; omega), h.2.1, h.2.2⟩
def qfd (a : (List qV)) : Nat := a.length + (a.map fun x => qgi x).sum
theorem qov {a : (List qV)} (h : (rngL qh8) a) (w : qfd a ≤ 1048576) : (okL qne) a :=
  ⟨by simp only [qfd] at w; omega, fun x hx => qo9 (h.2 x hx) (by have := qcb (wt := fun x : qV => qgi x) hx; simp only [qfd] at w; omega)⟩
def qiS (x : ql) : Prop := (rngL qfa) x.Instances ∧ (rngL rngS) x.Nets ∧ (rngL qh8) x.Ports
def qd7 (x : ql) : Nat := qbS x.Instances + qdW x.Nets + qfd x.Ports
structure qh0 (x : ql) : Prop where
  Instances : (okL qje) x.Instances
  Nets : (okL okS) x.Nets
  Ports : (okL qne) x.Ports
theorem qnX {x : ql} (h : qiS x) (w : qd7 x ≤ 1048576) : qh0 x := ⟨ql2 (h.1) (by simp only [qd7] at w; omega), qnl (h.2.1) (by simp only [qd7] at w; omega), qov (h.2.2) (by simp only [qd7] at w; omega)⟩
def qh7 (x : qQ) : Prop := (rngL rngI) x.Parent ∧ (rngL rngI) x.Res ∧ (rngL rngI) x.Cap ∧ (rngL rngI) x.Sink
def qe0 (x : qQ) : Nat := qao x.Parent + qao x.Res + qao x.Cap + qao x.Sink
structure qks (x : qQ) : Prop where
  Parent : (okL okI) x.Parent
  Res : (okL okI) x.Res
  Cap : (okL okI) x.Cap
  Sink : (okL okI) x.Sink
theorem qpa {x : qQ} (h : qh7 x) (w : qe0 x ≤ 1048576) : qks x := ⟨qcu (h.1) (by simp only [qe0] at w; omega), qcu (h.2.1) (by simp only [qe0] at w; omega), qcu (h.2.2.1) (by simp only [qe0] at w; omega), qcu (h.2.2.2) (by simp only [qe0] at w; omega)⟩
def qfi (a : (List qQ)) : Nat := a.length + (a.map fun x => qe0 x).sum
theorem qoA {a : (List qQ)} (h : (rngL qh7) a) (w : qfi a ≤ 1048576) : (okL qks) a :=
  ⟨by simp only [qfi] at w; omega, fun x hx => qpa (h.2 x hx) (by have := qcb (wt := fun x : qQ => qe0 x) hx; simp only [qfi] at w; omega)⟩
def qjG (x : qD) : Prop := qim x.Library ∧ qiS x.Design ∧ (rngL qh7) x.Wires
def qff (x : qD) : Nat := qdT x.Library + qd7 x.Design + qfi x.Wires
structure qg1 (x : qD) : Prop where
  Library : qgj x.Library
  Design : qh0 x.Design
  Wires : (okL qks) x.Wires
theorem qoB {x : qD} (h : qjG x) (w : qff x ≤ 1048576) : qg1 x := ⟨qnB (h.1) (by simp only [qff] at w; omega), qnX (h.2.1) (by simp only [qff] at w; omega), qoA (h.2.2) (by simp only [qff] at w; omega)⟩
theorem qrw {a : qag} (_ : qia a ≤ 1048576) : Ev (fun n => qho n a a) true := by
  unfold qho
  exact Ev.ff qhV (Ev.ff qbD (Ev.ff qbD (Ev.ff qng (.done))))

theorem qq1 {a : (List qag)} (h : qf0 a ≤ 1048576) : Ev (fun n => qhL n a a) true := by
  have hl : a.length ≤ 1048576 := by simp only [qf0] at h; omega
  unfold qhL
  exact Ev.ff (by simp) (Ev.bind (b := .nxt (a.length : Int)) (qhx (eqf := qho) (fun x hx => qrw (by have := qcb (wt := fun x : qag => qia x) hx; simp only [qf0] at h; omega))
    (fun n => by simp only [qd3, qu (Nat.le_refl _), cond_false])
    (fun n j x hx => by
      have hj := (List.getElem?_eq_some_iff.1 hx).1
      simp only [qd3, qt hj, cond_true, qav hx, Option.bind_some, qr (show j < 9223372036854775807 by omega)])) .done)

theorem qqV {a : qB} (h : qeZ a ≤ 1048576) : Ev (fun n => qgo n a a) true := by
  unfold qgo
  simp only [qeZ] at h
  exact Ev.ff qhV (Ev.ff qbD (Ev.bind (qq1 (a := a.Pins) (by omega)) (Ev.ff rfl (Ev.bind (qqS (a := a.Arcs) (by omega)) (Ev.ff rfl (Ev.bind (qcV (a := a.Truth) (by omega)) (Ev.ff rfl (Ev.ff qbD (Ev.ff qbD (.done))))))))))

theorem qpW {a : (List qB)} (h : qfc a ≤ 1048576) : Ev (fun n => qgD n a a) true := by
  have hl : a.length ≤ 1048576 := by simp only [qfc] at h; omega
  unfold qgD
  exact Ev.ff (by simp) (Ev.bind (b := .nxt (a.length : Int)) (qhx (eqf := qgo) (fun x hx => qqV (by have := qcb (wt := fun x : qB => qeZ x) hx; simp only [qfc] at h; omega))
    (fun n => by simp only [qdF, qu (Nat.le_refl _), cond_false])
    (fun n j x hx => by
      have hj := (List.getElem?_eq_some_iff.1 hx).1
      simp only [qdF, qt hj, cond_true, qav hx, Option.bind_some, qr (show j < 9223372036854775807 by omega)])) .done)

theorem qoC {a : qx} (h : qdT a ≤ 1048576) : Ev (fun n => qfG n a a) true := by
  unfold qfG
  simp only [qdT] at h
  exact Ev.bind (qpW (a := a.Cells) (by omega)) (Ev.ff rfl (.done))

theorem qnH {a : qk} (h : qbH a ≤ 1048576) : Ev (fun n => qem n a a) true := by
  unfold qem
  simp only [qbH] at h
  exact Ev.ff qhV (Ev.ff qbD (Ev.bind (qcV (a := a.Nets) (by omega)) (Ev.ff rfl (.done))))

theorem qnw {a : (List qk)} (h : qbS a ≤ 1048576) : Ev (fun n => qeQ n a a) true := by
  have hl : a.length ≤ 1048576 := by simp only [qbS] at h; omega
  unfold qeQ
  exact Ev.ff (by simp) (Ev.bind (b := .nxt (a.length : Int)) (qhx (eqf := qem) (fun x hx => qnH (by have := qcb (wt := fun x : qk => qbH x) hx; simp only [qbS] at h; omega))
    (fun n => by simp only [qb9, qu (Nat.le_refl _), cond_false])
    (fun n j x hx => by
      have hj := (List.getElem?_eq_some_iff.1 hx).1
      simp only [qb9, qt hj, cond_true, qav hx, Option.bind_some, qr (show j < 9223372036854775807 by omega)])) .done)

theorem qoK {a : (List ByteArray)} (h : qdW a ≤ 1048576) : Ev (fun n => qfD n a a) true := by
  have hl : a.length ≤ 1048576 := by simp only [qdW] at h; omega
  unfold qfD
  exact Ev.ff (by simp) (Ev.bind (b := .nxt (a.length : Int)) (qhx (eqf := fun _ x y => some (!(x.toList != y.toList))) (fun x _ => Ev.now (by simp))
    (fun n => by simp only [qcM, qu (Nat.le_refl _), cond_false])
    (fun n j x hx => by
      have hj := (List.getElem?_eq_some_iff.1 hx).1
      simp only [qcM, qt hj, cond_true, qav hx, Option.bind_some, Bool.not_not, qr (show j < 9223372036854775807 by omega)])) .done)

theorem qqN {a : qV} (_ : qgi a ≤ 1048576) : Ev (fun n => qgt n a a) true := by
  unfold qgt
  exact Ev.ff qhV (Ev.ff qbD (Ev.ff qbD (.done)))

theorem qp5 {a : (List qV)} (h : qfd a ≤ 1048576) : Ev (fun n => qhb n a a) true := by
  have hl : a.length ≤ 1048576 := by simp only [qfd] at h; omega
  unfold qhb
  exact Ev.ff (by simp) (Ev.bind (b := .nxt (a.length : Int)) (qhx (eqf := qgt) (fun x hx => qqN (by have := qcb (wt := fun x : qV => qgi x) hx; simp only [qfd] at h; omega))
    (fun n => by simp only [qdH, qu (Nat.le_refl _), cond_false])
    (fun n j x hx => by
      have hj := (List.getElem?_eq_some_iff.1 hx).1
      simp only [qdH, qt hj, cond_true, qav hx, Option.bind_some, qr (show j < 9223372036854775807 by omega)])) .done)

theorem qpl {a : ql} (h : qd7 a ≤ 1048576) : Ev (fun n => qgd n a a) true := by
  unfold qgd
  simp only [qd7] at h
  exact Ev.bind (qnw (a := a.Instances) (by omega)) (Ev.ff rfl (Ev.bind (qoK (a := a.Nets) (by omega)) (Ev.ff rfl (Ev.bind (qp5 (a := a.Ports) (by omega)) (Ev.ff rfl (.done))))))

theorem qq7 {a : qQ} (h : qe0 a ≤ 1048576) : Ev (fun n => qgr n a a) true := by
  unfold qgr
  simp only [qe0] at h
  exact Ev.bind (qcV (a := a.Parent) (by omega)) (Ev.ff rfl (Ev.bind (qcV (a := a.Res) (by omega)) (Ev.ff rfl (Ev.bind (qcV (a := a.Cap) (by omega)) (Ev.ff rfl (Ev.bind (qcV (a := a.Sink) (by omega)) (Ev.ff rfl (.done))))))))

theorem qp8 {a : (List qQ)} (h : qfi a ≤ 1048576) : Ev (fun n => qgC n a a) true := by
  have hl : a.length ≤ 1048576 := by simp only [qfi] at h; omega
  unfold qgC
  exact Ev.ff (by simp) (Ev.bind (b := .nxt (a.length : Int)) (qhx (eqf := qgr) (fun x hx => qq7 (by have := qcb (wt := fun x : qQ => qe0 x) hx; simp only [qfi] at h; omega))
    (fun n => by simp only [qdG, qu (Nat.le_refl _), cond_false])
    (fun n j x hx => by
      have hj := (List.getElem?_eq_some_iff.1 hx).1
      simp only [qdG, qt hj, cond_true, qav hx, Option.bind_some, qr (show j < 9223372036854775807 by omega)])) .done)

theorem qqk {a : qD} (h : qff a ≤ 1048576) : Ev (fun n => qgR n a a) true := by
  unfold qgR
  simp only [qff] at h
  exact Ev.bind (qoC (a := a.Library) (by omega)) (Ev.ff rfl (Ev.bind (qpl (a := a.Design) (by omega)) (Ev.ff rfl (Ev.bind (qp8 (a := a.Wires) (by omega)) (Ev.ff rfl (.done))))))

theorem qen {a : (List Int)} {left : Int} (h : (rngL rngI) a) (h0 : 0 ≤ left) (h1 : left ≤ 1048576) : Sz (fun n => qbg n a left) (fun r => r = left - (qao a : Int)) :=
  Sz.less h0 h1 (by omega) (by have := h.1; omega) (fun _ => rfl)

theorem qqJ {a : qC} {left : Int} (h : qgm a) (h0 : 0 ≤ left) (h1 : left ≤ 1048576) : Sz (fun n => qfP n a left) (fun r => r = left - (qdQ a : Int)) := by
  unfold qfP
  obtain ⟨h_0, h_1, h_2⟩ := h
  exact Sz.step (qen (a := a.Slews) h_0 (by omega) (by omega)) fun r0 p0 q0 => Sz.step (qen (a := a.Loads) h_1 (by omega) (by omega)) fun r1 p1 q1 => Sz.step (qen (a := a.Values) h_2 (by omega) (by omega)) fun r2 p2 q2 => Sz.done p2 (by simp only [qdQ]; omega)

theorem qmW {a : (List qC)} {left : Int} (h : (rngL qgm) a) (h0 : 0 ≤ left) (h1 : left ≤ 1048576) : Sz (fun n => qgc n a left) (fun r => r = left - (qda a : Int)) :=
  Sz.list (Lf := qcv a) (wt := fun x : qC => qdQ x) (el := qfP) h0 h1 h.1 (fun x hx left p q => qqJ (h.2 x hx) p q)
    (fun acc n => by simp only [qcv, qu (Nat.le_refl _), cond_false])
    (fun acc n j x hx => by
      have hj := (List.getElem?_eq_some_iff.1 hx).1
      have hl := h.1
      simp only [qcv, qt hj, cond_true, qav hx, Option.bind_some, qr (show j < 9223372036854775807 by omega)])
    (fun _ => rfl)

theorem qrA {a : qX} {left : Int} (h : qiL a) (h0 : 0 ≤ left) (h1 : left ≤ 1048576) : Sz (fun n => qhg n a left) (fun r => r = left - (qhd a : Int)) := by
  unfold qhg
  obtain ⟨h_0, h_1, h_2, h_3, h_4, h_5⟩ := h
  exact Sz.step (qmW (a := a.Delay) h_4 (by omega) (by omega)) fun r0 p0 q0 => Sz.step (qmW (a := a.Slew) h_5 (by omega) (by omega)) fun r1 p1 q1 => Sz.done p1 (by simp only [qhd]; omega)

theorem qqR {a : (List qX)} {left : Int} (h : (rngL qiL) a) (h0 : 0 ≤ left) (h1 : left ≤ 1048576) : Sz (fun n => qin n a left) (fun r => r = left - (qf1 a : Int)) :=
  Sz.list (Lf := qdq a) (wt := fun x : qX => qhd x) (el := qhg) h0 h1 h.1 (fun x hx left p q => qrA (h.2 x hx) p q)
    (fun acc n => by simp only [qdq, qu (Nat.le_refl _), cond_false])
    (fun acc n j x hx => by
      have hj := (List.getElem?_eq_some_iff.1 hx).1
      have hl := h.1
      simp only [qdq, qt hj, cond_true, qav hx, Option.bind_some, qr (show j < 9223372036854775807 by omega)])
    (fun _ => rfl)

theorem qrG {a : qag} {left : Int} (h : qiU a) (h0 : 0 ≤ left) (h1 : left ≤ 1048576) : Sz (fun n => qhm n a left) (fun r => r = left - (qia a : Int)) := by
  unfold qhm
  obtain ⟨h_0, h_1, h_2, h_3⟩ := h
  exact Sz.strStep h_0 (by omega) (by omega) fun p0 q0 => Sz.done p0 (by simp only [qia]; omega)

theorem qro {a : (List qag)} {left : Int} (h : (rngL qiU) a) (h0 : 0 ≤ left) (h1 : left ≤ 1048576) : Sz (fun n => qih n a left) (fun r => r = left - (qf0 a : Int)) :=
  Sz.list (Lf := qdv a) (wt := fun x : qag => qia x) (el := qhm) h0 h1 h.1 (fun x hx left p q => qrG (h.2 x hx) p q)
    (fun acc n => by simp only [qdv, qu (Nat.le_refl _), cond_false])
    (fun acc n j x hx => by
      have hj := (List.getElem?_eq_some_iff.1 hx).1
      have hl := h.1
      simp only [qdv, qt hj, cond_true, qav hx, Option.bind_some, qr (show j < 9223372036854775807 by omega)])
    (fun _ => rfl)

theorem qrd {a : qB} {left : Int} (h : qh9 a) (h0 : 0 ≤ left) (h1 : left ≤ 1048576) : Sz (fun n => qgk n a left) (fun r => r = left - (qeZ a : Int)) := by
  unfold qgk
  obtain ⟨h_0, h_1, h_2, h_3, h_4, h_5, h_6⟩ := h
  exact Sz.strStep h_0 (by omega) (by omega) fun p0 q0 => Sz.step (qro (a := a.Pins) h_2 (by omega) (by omega)) fun r1 p1 q1 => Sz.step (qqR (a := a.Arcs) h_3 (by omega) (by omega)) fun r2 p2 q2 => Sz.step (qen (a := a.Truth) h_4 (by omega) (by omega)) fun r3 p3 q3 => Sz.done p3 (by simp only [qeZ]; omega)

theorem qqI {a : (List qB)} {left : Int} (h : (rngL qh9) a) (h0 : 0 ≤ left) (h1 : left ≤ 1048576) : Sz (fun n => qhW n a left) (fun r => r = left - (qfc a : Int)) :=
  Sz.list (Lf := qc5 a) (wt := fun x : qB => qeZ x) (el := qgk) h0 h1 h.1 (fun x hx left p q => qrd (h.2 x hx) p q)
    (fun acc n => by simp only [qc5, qu (Nat.le_refl _), cond_false])
    (fun acc n j x hx => by
      have hj := (List.getElem?_eq_some_iff.1 hx).1
      have hl := h.1
      simp only [qc5, qt hj, cond_true, qav hx, Option.bind_some, qr (show j < 9223372036854775807 by omega)])
    (fun _ => rfl)

theorem qoE {a : qx} {left : Int} (h : qim a) (h0 : 0 ≤ left) (h1 : left ≤ 1048576) : Sz (fun n => qfB n a left) (fun r => r = left - (qdT a : Int)) := by
  unfold qfB
  have h_0 := h
  exact Sz.step (qqI (a := a.Cells) h_0 (by omega) (by omega)) fun r0 p0 q0 => Sz.done p0 (by simp only [qdT]; omega)

theorem qnK {a : qk} {left : Int} (h : qfa a) (h0 : 0 ≤ left) (h1 : left ≤ 1048576) : Sz (fun n => qep n a left) (fun r => r = left - (qbH a : Int)) := by
  unfold qep
  obtain ⟨h_0, h_1, h_2⟩ := h
  exact Sz.strStep h_0 (by omega) (by omega) fun p0 q0 => Sz.step (qen (a := a.Nets) h_2 (by omega) (by omega)) fun r1 p1 q1 => Sz.done p1 (by simp only [qbH]; omega)

theorem qnq {a : (List qk)} {left : Int} (h : (rngL qfa) a) (h0 : 0 ≤ left) (h1 : left ≤ 1048576) : Sz (fun n => qfU n a left) (fun r => r = left - (qbS a : Int)) :=
  Sz.list (Lf := qbC a) (wt := fun x : qk => qbH x) (el := qep) h0 h1 h.1 (fun x hx left p q => qnK (h.2 x hx) p q)
    (fun acc n => by simp only [qbC, qu (Nat.le_refl _), cond_false])
    (fun acc n j x hx => by
      have hj := (List.getElem?_eq_some_iff.1 hx).1
      have hl := h.1
      simp only [qbC, qt hj, cond_true, qav hx, Option.bind_some, qr (show j < 9223372036854775807 by omega)])
    (fun _ => rfl)

theorem qoq {a : (List ByteArray)} {left : Int} (h : (rngL rngS) a) (h0 : 0 ≤ left) (h1 : left ≤ 1048576) : Sz (fun n => qgA n a left) (fun r => r = left - (qdW a : Int)) :=
  Sz.list (Lf := qci a) (wt := fun x : ByteArray => x.size) (el := fun _ (x : ByteArray) acc => some (W64 (acc - (x.size : Int)))) h0 h1 h.1 (fun x hx left p q => Sz.str (h.2 x hx) p q)
    (fun acc n => by simp only [qci, qu (Nat.le_refl _), cond_false])
    (fun acc n j x hx => by
      have hj := (List.getElem?_eq_some_iff.1 hx).1
      have hl := h.1
      simp only [qci, qt hj, cond_true, qav hx, Option.bind_some, qr (show j < 9223372036854775807 by omega)])
    (fun _ => rfl)

theorem qqP {a : qV} {left : Int} (h : qh8 a) (h0 : 0 ≤ left) (h1 : left ≤ 1048576) : Sz (fun n => qgp n a left) (fun r => r = left - (qgi a : Int)) := by
  unfold qgp
  obtain ⟨h_0, h_1, h_2⟩ := h
  exact Sz.strStep h_0 (by omega) (by omega) fun p0 q0 => Sz.done p0 (by simp only [qgi]; omega)

theorem qp9 {a : (List qV)} {left : Int} (h : (rngL qh8) a) (h0 : 0 ≤ left) (h1 : left ≤ 1048576) : Sz (fun n => qhX n a left) (fun r => r = left - (qfd a : Int)) :=
  Sz.list (Lf := qc9 a) (wt := fun x : qV => qgi x) (el := qgp) h0 h1 h.1 (fun x hx left p q => qqP (h.2 x hx) p q)
    (fun acc n => by simp only [qc9, qu (Nat.le_refl _), cond_false])
    (fun acc n j x hx => by
      have hj := (List.getElem?_eq_some_iff.1 hx).1
      have hl := h.1
      simp only [qc9, qt hj, cond_true, qav hx, Option.bind_some, qr (show j < 9223372036854775807 by omega)])
    (fun _ => rfl)

theorem qpr {a : ql} {left : Int} (h : qiS a) (h0 : 0 ≤ left) (h1 : left ≤ 1048576) : Sz (fun n => qgb n a left) (fun r => r = left - (qd7 a : Int)) := by
  unfold qgb
  obtain ⟨h_0, h_1, h_2⟩ := h
  exact Sz.step (qnq (a := a.Instances) h_0 (by omega) (by omega)) fun r0 p0 q0 => Sz.step (qoq (a := a.Nets) h_1 (by omega) (by omega)) fun r1 p1 q1 => Sz.step (qp9 (a := a.Ports) h_2 (by omega) (by omega)) fun r2 p2 q2 => Sz.done p2 (by simp only [qd7]; omega)

theorem qqY {a : qQ} {left : Int} (h : qh7 a) (h0 : 0 ≤ left) (h1 : left ≤ 1048576) : Sz (fun n => qgs n a left) (fun r => r = left - (qe0 a : Int)) := by
  unfold qgs
  obtain ⟨h_0, h_1, h_2, h_3⟩ := h
  exact Sz.step (qen (a := a.Parent) h_0 (by omega) (by omega)) fun r0 p0 q0 => Sz.step (qen (a := a.Res) h_1 (by omega) (by omega)) fun r1 p1 q1 => Sz.step (qen (a := a.Cap) h_2 (by omega) (by omega)) fun r2 p2 q2 => Sz.step (qen (a := a.Sink) h_3 (by omega) (by omega)) fun r3 p3 q3 => Sz.done p3 (by simp only [qe0]; omega)

theorem qqi {a : (List qQ)} {left : Int} (h : (rngL qh7) a) (h0 : 0 ≤ left) (h1 : left ≤ 1048576) : Sz (fun n => qhT n a left) (fun r => r = left - (qfi a : Int)) :=
  Sz.list (Lf := qc7 a) (wt := fun x : qQ => qe0 x) (el := qgs) h0 h1 h.1 (fun x hx left p q => qqY (h.2 x hx) p q)
    (fun acc n => by simp only [qc7, qu (Nat.le_refl _), cond_false])
    (fun acc n j x hx => by
      have hj := (List.getElem?_eq_some_iff.1 hx).1
      have hl := h.1
      simp only [qc7, qt hj, cond_true, qav hx, Option.bind_some, qr (show j < 9223372036854775807 by omega)])
    (fun _ => rfl)

theorem qpY {a : qD} {left : Int} (h : qjG a) (h0 : 0 ≤ left) (h1 : left ≤ 1048576) : Sz (fun n => qgT n a left) (fun r => r = left - (qff a : Int)) := by
  unfold qgT
  obtain ⟨h_0, h_1, h_2⟩ := h
  exact Sz.step (qoE (a := a.Library) h_0 (by omega) (by omega)) fun r0 p0 q0 => Sz.step (qpr (a := a.Design) h_1 (by omega) (by omega)) fun r1 p1 q1 => Sz.step (qqi (a := a.Wires) h_2 (by omega) (by omega)) fun r2 p2 q2 => Sz.done p2 (by simp only [qff]; omega)

theorem qcW {a : (List Int)} (h : qao a ≤ 1048576) : Ev (fun n => qaA n a) a := by
  have hl : a.length ≤ 1048576 := by simp only [qao] at h; omega
  unfold qaA
  exact Ev.bindN (qgK (by omega)) (Ev.bind (b := (a, (a.length : Int))) (qht (cp := fun _ x => some x) (fun _ _ => .done)
    (fun acc n => by simp only [qdd, qu (Nat.le_refl _), cond_false])
    (fun acc n j x y hx hy => by
      have hj := (List.getElem?_eq_some_iff.1 hx).1
      simp only [qdd, qt hj, cond_true, qav hx, qav hy, Option.bind_some, qr (show j < 9223372036854775807 by omega)])) .done)

theorem qp0 {a : qC} (h : qdQ a ≤ 1048576) : Ev (fun n => qfL n a) a := by
  unfold qfL
  simp only [qdQ] at h
  exact Ev.bind (qcW (a := a.Slews) (by omega)) (Ev.bind (qcW (a := a.Loads) (by omega)) (Ev.bind (qcW (a := a.Values) (by omega)) (.done)))

theorem qmX {a : (List qC)} (h : qda a ≤ 1048576) : Ev (fun n => qfq n a) a := by
  have hl : a.length ≤ 1048576 := by simp only [qda] at h; omega
  unfold qfq
  exact Ev.bindN (qgK (by omega)) (Ev.bind (b := (a, (a.length : Int))) (qht (cp := qfL) (fun x hx => qp0 (by have := qcb (wt := fun x : qC => qdQ x) hx; simp only [qda] at h; omega))
    (fun acc n => by simp only [qdm, qu (Nat.le_refl _), cond_false])
    (fun acc n j x y hx hy => by
      have hj := (List.getElem?_eq_some_iff.1 hx).1
      simp only [qdm, qt hj, cond_true, qav hx, qav hy, Option.bind_some, qr (show j < 9223372036854775807 by omega)])) .done)

theorem qrH {a : qX} (h : qhd a ≤ 1048576) : Ev (fun n => qhh n a) a := by
  unfold qhh
  simp only [qhd] at h
  exact Ev.bind (qmX (a := a.Delay) (by omega)) (Ev.bind (qmX (a := a.Slew) (by omega)) (.done))

theorem qrh {a : (List qX)} (h : qf1 a ≤ 1048576) : Ev (fun n => qhz n a) a := by
  have hl : a.length ≤ 1048576 := by simp only [qf1] at h; omega
  unfold qhz
  exact Ev.bindN (qgK (by omega)) (Ev.bind (b := (a, (a.length : Int))) (qht (cp := qhh) (fun x hx => qrH (by have := qcb (wt := fun x : qX => qhd x) hx; simp only [qf1] at h; omega))
    (fun acc n => by simp only [qeg, qu (Nat.le_refl _), cond_false])
    (fun acc n j x y hx hy => by
      have hj := (List.getElem?_eq_some_iff.1 hx).1
      simp only [qeg, qt hj, cond_true, qav hx, qav hy, Option.bind_some, qr (show j < 9223372036854775807 by omega)])) .done)

theorem qrC {a : qag} (_ : qia a ≤ 1048576) : Ev (fun n => qhe n a) a := by
  unfold qhe
  exact .done

theorem qrm {a : (List qag)} (h : qf0 a ≤ 1048576) : Ev (fun n => qhC n a) a := by
  have hl : a.length ≤ 1048576 := by simp only [qf0] at h; omega
  unfold qhC
  exact Ev.bindN (qgK (by omega)) (Ev.bind (b := (a, (a.length : Int))) (qht (cp := qhe) (fun x hx => qrC (by have := qcb (wt := fun x : qag => qia x) hx; simp only [qf0] at h; omega))
    (fun acc n => by simp only [qeb, qu (Nat.le_refl _), cond_false])
    (fun acc n j x y hx hy => by
      have hj := (List.getElem?_eq_some_iff.1 hx).1
      simp only [qeb, qt hj, cond_true, qav hx, qav hy, Option.bind_some, qr (show j < 9223372036854775807 by omega)])) .done)

theorem qqU {a : qB} (h : qeZ a ≤ 1048576) : Ev (fun n => qgu n a) a := by
  unfold qgu
  simp only [qeZ] at h
  exact Ev.bind (qrm (a := a.Pins) (by omega)) (Ev.bind (qrh (a := a.Arcs) (by omega)) (Ev.bind (qcW (a := a.Truth) (by omega)) (.done)))

theorem qqa {a : (List qB)} (h : qfc a ≤ 1048576) : Ev (fun n => qg7 n a) a := by
  have hl : a.length ≤ 1048576 := by simp only [qfc] at h; omega
  unfold qg7
  exact Ev.bindN (qgK (by omega)) (Ev.bind (b := (a, (a.length : Int))) (qht (cp := qgu) (fun x hx => qqU (by have := qcb (wt := fun x : qB => qeZ x) hx; simp only [qfc] at h; omega))
    (fun acc n => by simp only [qdE, qu (Nat.le_refl _), cond_false])
    (fun acc n j x y hx hy => by
      have hj := (List.getElem?_eq_some_iff.1 hx).1
      simp only [qdE, qt hj, cond_true, qav hx, qav hy, Option.bind_some, qr (show j < 9223372036854775807 by omega)])) .done)

theorem qok {a : qx} (h : qdT a ≤ 1048576) : Ev (fun n => qfF n a) a := by
  unfold qfF
  simp only [qdT] at h
  exact Ev.bind (qqa (a := a.Cells) (by omega)) (.done)

theorem qn8 {a : qk} (h : qbH a ≤ 1048576) : Ev (fun n => qel n a) a := by
  unfold qel
  simp only [qbH] at h
  exact Ev.bind (qcW (a := a.Nets) (by omega)) (.done)

theorem qnC {a : (List qk)} (h : qbS a ≤ 1048576) : Ev (fun n => qeR n a) a := by
  have hl : a.length ≤ 1048576 := by simp only [qbS] at h; omega
  unfold qeR
  exact Ev.bindN (qgK (by omega)) (Ev.bind (b := (a, (a.length : Int))) (qht (cp := qel) (fun x hx => qn8 (by have := qcb (wt := fun x : qk => qbH x) hx; simp only [qbS] at h; omega))
    (fun acc n => by simp only [qca, qu (Nat.le_refl _), cond_false])
    (fun acc n j x y hx hy => by
      have hj := (List.getElem?_eq_some_iff.1 hx).1
      simp only [qca, qt hj, cond_true, qav hx, qav hy, Option.bind_some, qr (show j < 9223372036854775807 by omega)])) .done)

theorem qoJ {a : (List ByteArray)} (h : qdW a ≤ 1048576) : Ev (fun n => qfJ n a) a := by
  have hl : a.length ≤ 1048576 := by simp only [qdW] at h; omega
  unfold qfJ
  exact Ev.bindN (qgK (by omega)) (Ev.bind (b := (a, (a.length : Int))) (qht (cp := fun _ x => some x) (fun _ _ => .done)
    (fun acc n => by simp only [qcP, qu (Nat.le_refl _), cond_false])
    (fun acc n j x y hx hy => by
      have hj := (List.getElem?_eq_some_iff.1 hx).1
      simp only [qcP, qt hj, cond_true, qav hx, qav hy, Option.bind_some, qr (show j < 9223372036854775807 by omega)])) .done)

theorem qqO {a : qV} (_ : qgi a ≤ 1048576) : Ev (fun n => qgl n a) a := by
  unfold qgl
  exact .done

theorem qp1 {a : (List qV)} (h : qfd a ≤ 1048576) : Ev (fun n => qg2 n a) a := by
  have hl : a.length ≤ 1048576 := by simp only [qfd] at h; omega
  unfold qg2
  exact Ev.bindN (qgK (by omega)) (Ev.bind (b := (a, (a.length : Int))) (qht (cp := qgl) (fun x hx => qqO (by have := qcb (wt := fun x : qV => qgi x) hx; simp only [qfd] at h; omega))
    (fun acc n => by simp only [qdC, qu (Nat.le_refl _), cond_false])
    (fun acc n j x y hx hy => by
      have hj := (List.getElem?_eq_some_iff.1 hx).1
      simp only [qdC, qt hj, cond_true, qav hx, qav hy, Option.bind_some, qr (show j < 9223372036854775807 by omega)])) .done)

theorem qpB {a : ql} (h : qd7 a ≤ 1048576) : Ev (fun n => qf8 n a) a := by
  unfold qf8
  simp only [qd7] at h
  exact Ev.bind (qnC (a := a.Instances) (by omega)) (Ev.bind (qoJ (a := a.Nets) (by omega)) (Ev.bind (qp1 (a := a.Ports) (by omega)) (.done)))

theorem qqT {a : qQ} (h : qe0 a ≤ 1048576) : Ev (fun n => qgq n a) a := by
  unfold qgq
  simp only [qe0] at h
  exact Ev.bind (qcW (a := a.Parent) (by omega)) (Ev.bind (qcW (a := a.Res) (by omega)) (Ev.bind (qcW (a := a.Cap) (by omega)) (Ev.bind (qcW (a := a.Sink) (by omega)) (.done))))

theorem qqB {a : (List qQ)} (h : qfi a ≤ 1048576) : Ev (fun n => qha n a) a := by
  have hl : a.length ≤ 1048576 := by simp only [qfi] at h; omega
  unfold qha
  exact Ev.bindN (qgK (by omega)) (Ev.bind (b := (a, (a.length : Int))) (qht (cp := qgq) (fun x hx => qqT (by have := qcb (wt := fun x : qQ => qe0 x) hx; simp only [qfi] at h; omega))
    (fun acc n => by simp only [qdD, qu (Nat.le_refl _), cond_false])
    (fun acc n j x y hx hy => by
      have hj := (List.getElem?_eq_some_iff.1 hx).1
      simp only [qdD, qt hj, cond_true, qav hx, qav hy, Option.bind_some, qr (show j < 9223372036854775807 by omega)])) .done)

theorem qkv {a : qD} (h : qff a ≤ 1048576) : Ev (fun n => qex n a) a := by
  unfold qex
  simp only [qff] at h
  exact Ev.bind (qok (a := a.Library) (by omega)) (Ev.bind (qpB (a := a.Design) (by omega)) (Ev.bind (qqB (a := a.Wires) (by omega)) (.done)))

end Go.Fw


namespace Go.Fw
open Go
set_option maxRecDepth 100000


theorem qd6 {n : Nat} {x lo hi : Int} : qar n x lo hi = some (inI x lo hi) := by
  simp only [qar, qjs, qkx]; rfl
theorem qdB {n : Nat} {x lo hi : Int} : qaI n x lo hi = some (inI x lo hi) := by
  simp only [qaI, qjs, qkx]; rfl

/-! ### Names -/

/-- The byte at a place, as a number. -/
def bt (s : ByteArray) (j : Nat) : Nat := (s.data.toList.getD j 0).toNat
theorem qpQ {s : ByteArray} {j : Nat} (h : j < s.size) : atS s (j : Int) = some (bt s j : Int) := by
  have h' : j < s.data.size := h
  have hl : j < s.data.toList.length := by simpa using h'
  unfold atS
  rw [if_pos (by omega), Int.toNat_natCast]
  have : s[j]? = some (s.data.toList.getD j 0) := by
    rw [getElem?_pos s j h, List.getD_eq_getElem?_getD, List.getElem?_eq_getElem hl]
    rfl
  rw [this]
  rfl

def letB (b : Nat) : Bool := decide (97 ≤ b) && decide (b ≤ 122)
def digB (b : Nat) : Bool := decide (48 ≤ b) && decide (b ≤ 57)
def chB (s : ByteArray) (j : Nat) : Bool := letB (bt s j) || digB (bt s j) && decide (0 < j)
def nameB (s : ByteArray) : Bool := (decide (1 ≤ s.size) && decide (s.size ≤ 8)) && allN (chB s) s.size

theorem qkb {s : ByteArray} (h : okS s) : Ev (fun n => qfh n s) (nameB s) := by
  unfold okS at h
  have hL : Ev (fun n => qct s n 0) (bif allN (chB s) s.size then .nxt (s.size : Int) else .ret false) := by
    refine qed ?_ (fun j hj X hX => ?_)
    · exact Ev.succ (by simp only [qct, qu (Nat.le_refl _), cond_false]; exact .done)
    · refine Ev.succ ?_
      simp only [qct, qt hj, cond_true, qpQ hj, Option.bind_some, qjs, qkx, qr (show j < 9223372036854775807 by omega)]
      have e1 : (decide ((bt s j : Int) ≥ 97) && decide ((bt s j : Int) ≤ 122)) = letB (bt s j) := by unfold letB; rw [Bool.eq_iff_iff]; simp; omega
      have e2 : (decide ((bt s j : Int) ≥ 48) && decide ((bt s j : Int) ≤ 57)) = digB (bt s j) := by unfold digB; rw [Bool.eq_iff_iff]; simp; omega
      have e3 : decide ((j : Int) > 0) = decide (0 < j) := by rw [Bool.eq_iff_iff]; simp
      rw [e1, e2, e3]
      unfold chB
      cases letB (bt s j) <;> cases digB (bt s j) <;> cases decide (0 < j) <;> first | exact hX | exact .done
  unfold qfh
  refine Ev.cast (r := bif allN (chB s) s.size then (decide (1 ≤ s.size) && decide (s.size ≤ 8)) else false) (Ev.bindB hL (fun _ => ?_) (fun _ => .done)) ?_
  · simp only [qjs, qkx]
    exact Ev.now (by congr 1; rw [Bool.eq_iff_iff]; simp; omega)
  · unfold nameB
    cases allN (chB s) s.size <;> simp

def cutset : List UInt8 := [97, 98, 99, 100, 101, 102, 103, 104, 105, 106, 107, 108, 109, 110, 111, 112, 113, 114, 115, 116, 117, 118, 119, 120, 121, 122, 48, 49, 50, 51, 52, 53, 54, 55, 56, 57]
theorem qme (b : UInt8) : cutset.contains b = (letB b.toNat || digB b.toNat) := by
  have h0 : (List.range 256).all (fun m => cutset.contains (UInt8.ofNat m) == (letB (UInt8.ofNat m).toNat || digB (UInt8.ofNat m).toNat)) = true := by kernel_rfl
  have h := List.all_eq_true.1 h0 b.toNat (List.mem_range.2 b.toNat_lt)
  rw [beq_iff_eq] at h
  simpa using h
def letters : List UInt8 := [97, 98, 99, 100, 101, 102, 103, 104, 105, 106, 107, 108, 109, 110, 111, 112, 113, 114, 115, 116, 117, 118, 119, 120, 121, 122]
theorem qoT (m : Nat) (hm : m < 256) : decide ((Lib.indexByte letters m.toUInt8) ≥ 0) = letB m := by
  have h0 : (List.range 256).all (fun m => decide ((Lib.indexByte letters m.toUInt8) ≥ 0) == letB m) = true := by kernel_rfl
  have h := List.all_eq_true.1 h0 m (List.mem_range.2 hm)
  rwa [beq_iff_eq] at h

theorem qmo {α : Type} {p : α → Bool} {l : List α} : l.dropWhile p = [] ↔ ∀ x, x ∈ l → p x = true := by
  induction l with
  | nil => simp
  | cons y l ih =>
    rw [List.dropWhile_cons]
    by_cases h : p y = true
    · rw [if_pos h, ih]; simp [h]
    · rw [if_neg h]; simp [h]

theorem qmB {α : Type} {p : α → Bool} {l : List α} (h : ∀ x, x ∈ l.dropWhile p → p x = true) : ∀ x, x ∈ l → p x = true := by
  induction l with
  | nil => simp
  | cons y l ih =>
    rw [List.dropWhile_cons] at h
    by_cases hy : p y = true
    · rw [if_pos hy] at h
      intro x hx
      rcases List.mem_cons.1 hx with rfl | hx
      · exact hy
      · exact ih h x hx
    · rw [if_neg hy] at h
      exact h

theorem qqn {l cs : List UInt8} : Lib.trimS l cs = [] ↔ ∀ x, x ∈ l → cs.contains x = true := by
  unfold Lib.trimS Lib.trimRightS Lib.trimLeftS
  rw [qmo]
  constructor
  · intro h x hx
    exact qmB (p := (cs.contains ·)) (l := l.reverse) (fun y hy => h y (List.mem_reverse.2 hy)) x (List.mem_reverse.2 hx)
  · intro h x hx
    exact h x (List.mem_reverse.1 ((List.dropWhile_suffix _).subset (List.mem_reverse.1 hx)))

theorem qf7 {a b : ByteArray} : (a.toList == b.toList) = decide (a = b) := by
  rw [Bool.eq_iff_iff, beq_iff_eq, decide_eq_true_iff]
  constructor
  · intro h
    exact ByteArray.ext (by have := congrArg List.toArray h; simpa [ByteArray.toList_eq] using this)
  · rintro rfl; rfl
end Go.Fw


namespace Go.Fw
open Go
set_option maxRecDepth 100000

theorem qrt {s : ByteArray} {j : Nat} (h : j < s.data.toList.length) : bt s j = (s.data.toList[j]).toNat := by
  unfold bt; rw [List.getD_eq_getElem?_getD, List.getElem?_eq_getElem h]; rfl
theorem qrK {s : ByteArray} {j : Nat} : bt s j < 256 := UInt8.toNat_lt _

theorem qmZ {n : Nat} {s : ByteArray} (h : okS s) : qgn n s = some (nameB s) := by
  unfold okS at h
  have hl : s.data.toList.length = s.size := by simp
  simp only [qgn, qdB, Option.bind_some]
  cases hI : inI (s.size : Int) 1 8 with
  | false =>
    have hs : (decide (1 ≤ s.size) && decide (s.size ≤ 8)) = false := by rw [qpL] at hI; rw [Bool.and_eq_false_iff, decide_eq_false_iff_not, decide_eq_false_iff_not]; omega
    simp [nameB, hs]
  | true =>
    have hs : 1 ≤ s.size ∧ s.size ≤ 8 := by rw [qdN] at hI; omega
    have hT : qg0 n s (⟨#[97, 98, 99, 100, 101, 102, 103, 104, 105, 106, 107, 108, 109, 110, 111, 112, 113, 114, 115, 116, 117, 118, 119, 120, 121, 122, 48, 49, 50, 51, 52, 53, 54, 55, 56, 57]⟩ : ByteArray) = some ⟨(Lib.trimS s.data.toList cutset).toArray⟩ := by
      unfold qg0
      rw [if_pos ⟨by omega, by decide, by decide⟩]
      rfl
    rw [hT]
    simp only [cond_true, Option.bind_some]
    have hE : (((⟨(Lib.trimS s.data.toList cutset).toArray⟩ : ByteArray).toList == (⟨#[]⟩ : ByteArray).toList)) = allN (fun j => letB (bt s j) || digB (bt s j)) s.size := by
      rw [qf7, Bool.eq_iff_iff, decide_eq_true_iff, qbi]
      have : ((⟨(Lib.trimS s.data.toList cutset).toArray⟩ : ByteArray) = ⟨#[]⟩) ↔ Lib.trimS s.data.toList cutset = [] := by
        constructor
        · intro he
          have := congrArg (fun x : ByteArray => x.data.toList) he
          simpa using this
        · intro he; rw [he]
      rw [this, qqn]
      constructor
      · intro hx j hj
        have hj' : j < s.data.toList.length := by omega
        have := hx _ (List.getElem_mem hj')
        rw [qme, ← qrt hj'] at this
        exact this
      · intro hx x hm
        obtain ⟨j, hj, rfl⟩ := List.getElem_of_mem hm
        have := hx j (by omega)
        rw [qme, ← qrt hj]
        exact this
    rw [hE]
    have h0 : atS s 0 = some (bt s 0 : Int) := qpQ (j := 0) (by omega)
    have hI2 : decide (Lib.indexByte letters (bt s 0 : Int).toNat.toUInt8 ≥ 0) = letB (bt s 0) := by
      rw [Int.toNat_natCast]; exact qoT _ qrK
    have hF : ∀ b : Bool, (bif b then (atS s 0).bind fun y1 => (qfs n (⟨#[97, 98, 99, 100, 101, 102, 103, 104, 105, 106, 107, 108, 109, 110, 111, 112, 113, 114, 115, 116, 117, 118, 119, 120, 121, 122]⟩ : ByteArray) (⟨y1⟩ : IntK .u8)).bind fun r3 => some (decide (r3 ≥ 0)) else some false) = some (b && letB (bt s 0)) := by
      intro b
      cases b with
      | false => rfl
      | true =>
        rw [h0]
        simp only [cond_true, Option.bind_some, qfs, Bool.true_and]
        exact congrArg some hI2
    rw [hF]
    congr 1
    have hs' : (decide (1 ≤ s.size) && decide (s.size ≤ 8)) = true := by simp [hs]
    unfold nameB
    rw [hs', Bool.true_and, Bool.eq_iff_iff, Bool.and_eq_true, qbi, qbi]
    simp only [chB, Bool.or_eq_true, Bool.and_eq_true, decide_eq_true_eq]
    constructor
    · rintro ⟨h1, h2⟩ j hj
      rcases Nat.eq_zero_or_pos j with rfl | hp
      · exact .inl h2
      · exact (h1 j hj).imp id (fun h => ⟨h, hp⟩)
    · intro h1
      refine ⟨fun j hj => (h1 j hj).imp id (fun h => h.1), ?_⟩
      rcases h1 0 (by omega) with h2 | h2
      · exact h2
      · omega

/-! ### Lists of names -/

def strAt (xs : List ByteArray) (j : Nat) : ByteArray := xs.getD j ByteArray.empty
theorem qku {xs : List ByteArray} {j : Nat} (h : j < xs.length) : strAt xs j = xs[j] := by simp [strAt, h]
theorem qlC {xs : List ByteArray} {j : Nat} (h : j < xs.length) : idx xs (j : Int) = some (strAt xs j) := by rw [qgB h, qku h]
def neB (xs : List ByteArray) (j i : Nat) : Bool := !decide (strAt xs i = strAt xs j)
def namesB (xs : List ByteArray) : Bool := allN (fun j => nameB (strAt xs j) && allN (neB xs j) j) xs.length

theorem qji {xs : List ByteArray} (h : okL okS xs) : Ev (fun n => qeI n xs) (namesB xs) := by
  have hl := h.len
  have hL2 : ∀ j, j < xs.length → Ev (fun n => qcy xs (j : Int) n 0) (bif allN (neB xs j) j then .nxt (j : Int) else .ret false) := by
    intro j hj
    refine qed ?_ (fun i hi X hX => Ev.succ ?_)
    · exact Ev.succ (by simp only [qcy, qu (Nat.le_refl _), cond_false]; exact .done)
    · simp only [qcy, qt hi, cond_true, qlC (show i < xs.length by omega), qlC hj, Option.bind_some, qf7, qr (show i < 9223372036854775807 by omega)]
      unfold neB
      cases decide (strAt xs i = strAt xs j)
      · exact hX
      · exact .done
  have hL1 : Ev (fun n => qcG xs n 0) (bif namesB xs then .nxt (xs.length : Int) else .ret false) := by
    refine qed ?_ (fun j hj X hX => Ev.succ ?_)
    · exact Ev.succ (by simp only [qcG, qu (Nat.le_refl _), cond_false]; exact .done)
    · simp only [qcG, qt hj, cond_true, qlC hj, Option.bind_some, qr (show j < 9223372036854775807 by omega)]
      refine Ev.bind (qkb (by rw [qku hj]; exact h.at hj)) ?_
      cases nameB (strAt xs j)
      · exact .done
      · refine Ev.ff rfl (Ev.bind (hL2 j hj) ?_)
        cases allN (neB xs j) j
        · exact .done
        · exact hX
  unfold qeI
  refine Ev.bind hL1 ?_
  cases namesB xs <;> exact .done

theorem qnN {xs : List ByteArray} {v : ByteArray} (hl : xs.length ≤ 1048576) : Ev (fun n => qdM n xs v) (ixL (fun x => decide (v = x)) xs) :=
  qg6 (fin := (xs.length : Int)) (Lf := qbc xs v) (pf := fun _ x => some (decide (v = x))) (fun _ _ => .done)
    (fun n => by simp only [qbc, qu (Nat.le_refl _), cond_false])
    (fun n j x hx => by
      have hj := (List.getElem?_eq_some_iff.1 hx).1
      simp only [qbc, qt hj, cond_true, qav hx, Option.bind_some, qf7, qr (show j < 9223372036854775807 by omega)])
    (fun n => by unfold qdM; congr 1; funext o; cases o <;> rfl)

theorem qlS {xs : List ByteArray} {v : ByteArray} (hl : xs.length ≤ 1048576) : Ev (fun n => qcJ n xs v) (xs.any fun x => decide (v = x)) := by
  unfold qcJ
  exact Ev.bind (qnN hl) (Ev.now (by rw [qjh]))

theorem qhG {xs : List ByteArray} (h : okL okS xs) : Ev (fun n => qdo n xs) (namesB xs) := by
  have hl := h.len
  have hL1 : Ev (fun n => qcx xs n 0) (bif namesB xs then .nxt (xs.length : Int) else .ret false) := by
    refine qed ?_ (fun j hj X hX => Ev.succ ?_)
    · exact Ev.succ (by simp only [qcx, qu (Nat.le_refl _), cond_false]; exact .done)
    · have hs : subS xs 0 (j : Int) = some (xs.take j) := by
        unfold subS
        rw [if_pos ⟨by omega, by omega, by omega⟩]
        simp
      simp only [qcx, qt hj, cond_true, qlC hj, Option.bind_some, hs, qmZ (show okS (strAt xs j) by rw [qku hj]; exact h.at hj), qr (show j < 9223372036854775807 by omega)]
      cases nameB (strAt xs j)
      · exact .done
      · refine Ev.ff rfl (Ev.bind (qlS (by simp; omega)) ?_)
        have : ((xs.take j).any fun x => decide (strAt xs j = x)) = !allN (neB xs j) j := by
          rw [qn4 (d := ByteArray.empty)]
          congr 1
          rw [List.length_take, Nat.min_eq_left (by omega)]
          refine qgh (fun i hi => ?_)
          unfold neB strAt
          congr 1
          have : (xs.take j).getD i ByteArray.empty = xs.getD i ByteArray.empty := by simp [List.getD_eq_getElem?_getD, hi]
          rw [this]
          exact decide_eq_decide.2 eq_comm
        rw [this]
        cases allN (neB xs j) j
        · exact .done
        · exact hX
  unfold qdo
  refine Ev.bind hL1 ?_
  cases namesB xs <;> exact .done
end Go.Fw


namespace Go.Fw
open Go
set_option maxRecDepth 100000

theorem qmj {n : Nat} {x lo hi : Int} : qeS n x lo hi = some (!inI x lo hi) := by simp only [qeS, qdB, Option.bind_some]

theorem qfe {xs : List Int} {lo hi : Int} (hl : xs.length ≤ 1048576) : Ev (fun n => qby n xs lo hi) (xs.all fun x => inI x lo hi) := by
  have h1 : Ev (fun n => qaE n xs lo hi) (ixL (fun x => !inI x lo hi) xs) :=
    qg6 (fin := (xs.length : Int)) (Lf := qO xs lo hi) (pf := fun _ x => some (!inI x lo hi)) (fun _ _ => .done)
      (fun n => by simp only [qO, qu (Nat.le_refl _), cond_false])
      (fun n j x hx => by
        have hj := (List.getElem?_eq_some_iff.1 hx).1
        simp only [qO, qt hj, cond_true, qav hx, Option.bind_some, qmj, qr (show j < 9223372036854775807 by omega)])
      (fun n => by unfold qaE; congr 1; funext o; cases o <;> rfl)
  unfold qby qaT
  refine Ev.bind (Ev.bind h1 (Ev.now rfl)) (Ev.now ?_)
  rw [qjh, qky]

def stepB (xs : List Int) (j : Nat) : Bool := decide (j = 0) || decide (at0 xs (j - 1) < at0 xs j)
def incB (xs : List Int) : Bool := allN (stepB xs) xs.length

theorem qhP {xs : List Int} (hl : xs.length ≤ 1048576) : Ev (fun n => qcO n xs) (incB xs) := by
  have hL : Ev (fun n => qaV xs n 1) (bif incB xs then .nxt (max 1 xs.length : Int) else .ret false) := by
    by_cases h0 : xs.length = 0
    · have hb : incB xs = true := by unfold incB; rw [h0]; rfl
      rw [hb]
      refine Ev.succ ?_
      have : decide ((1 : Int) < (xs.length : Int)) = false := by rw [h0]; decide
      simp only [qaV, this, cond_false]
      exact Ev.now (by rw [h0]; rfl)
    · have := qo1 (Lf := qaV xs) (len := xs.length) (i0 := 1) (f := stepB xs) (bad := false) (fin := .nxt (max 1 xs.length : Int)) (by omega)
        (Ev.succ (by
          simp only [qaV, qu (Nat.le_refl _), cond_false]
          exact Ev.now (by congr 2; omega)))
        (fun j h1 hj X hX => Ev.succ (by
          simp only [qaV, qt hj, cond_true, qr (show j < 9223372036854775807 by omega), show (j : Int) - 1 = ((j - 1 : Nat) : Int) by omega, qbo (show -9223372036854775808 ≤ ((j - 1 : Nat) : Int) by omega) (by omega), qbN (show j - 1 < xs.length by omega), qbN hj, Option.bind_some]
          unfold stepB
          by_cases hc : at0 xs (j - 1) < at0 xs j
          · have e1 : decide (at0 xs (j - 1) ≥ at0 xs j) = false := by simp; omega
            rw [e1]; simp only [hc, decide_true, Bool.or_true, cond_true, cond_false]; exact hX
          · have e1 : decide (at0 xs (j - 1) ≥ at0 xs j) = true := by simp; omega
            have e2 : decide (j = 0) = false := by simp; omega
            rw [e1, e2]; simp only [hc, decide_false, Bool.or_self, cond_true, cond_false]; exact .done))
      have e : allN (fun j => stepB xs (1 + j)) (xs.length - 1) = incB xs := by
        unfold incB
        rw [Bool.eq_iff_iff, qbi, qbi]
        constructor
        · intro h j hj
          cases j with
          | zero => rfl
          | succ j => have := h j (by omega); rwa [Nat.add_comm] at this
        · intro h j hj
          exact h (1 + j) (by omega)
      rw [e] at this
      exact this
  unfold qcO
  refine Ev.bind hL ?_
  cases incB xs <;> exact .done

def lenB {α : Type} (xs : List α) (lo hi : Nat) : Bool := decide (lo ≤ xs.length) && decide (xs.length ≤ hi)
theorem qm9 {α : Type} {xs : List α} {lo hi : Nat} : inI (xs.length : Int) (lo : Int) (hi : Int) = lenB xs lo hi := by
  unfold inI lenB; rw [Bool.eq_iff_iff]; simp
def axisB (xs : List Int) : Bool := lenB xs 1 4 && ((xs.all fun x => inI x 0 100000) && incB xs)

theorem qmO {xs : List Int} (hl : xs.length ≤ 1048576) : Ev (fun n => qgv n xs) (axisB xs) := by
  simp only [qgv, qas, Option.bind_some, qdB, show inI (xs.length : Int) 1 4 = lenB xs 1 4 from qm9 (lo := 1) (hi := 4)]
  unfold axisB
  cases lenB xs 1 4
  · exact .done
  · refine Ev.tt rfl (Ev.bind (qfe hl) ?_)
    cases (xs.all fun x => inI x 0 100000)
    · exact .done
    · exact Ev.tt rfl (Ev.bind (qhP hl) .done)

theorem qmc {xs : List Int} (hl : xs.length ≤ 1048576) : Ev (fun n => qfN n xs) (axisB xs) := by
  have hL : Ev (fun n => qcr xs n 0) (bif allN (fun j => inI (at0 xs j) 0 100000 && stepB xs j) xs.length then .nxt (xs.length : Int) else .ret false) := by
    refine qed ?_ (fun j hj X hX => Ev.succ ?_)
    · exact Ev.succ (by simp only [qcr, qu (Nat.le_refl _), cond_false]; exact .done)
    · simp only [qcr, qt hj, cond_true, qbN hj, Option.bind_some, qd6, qr (show j < 9223372036854775807 by omega)]
      cases inI (at0 xs j) 0 100000
      · exact .done
      · simp only [Bool.not_true, cond_false, Bool.true_and]
        unfold stepB
        by_cases h0 : j = 0
        · subst h0
          exact Ev.ff (by decide) hX
        · simp only [show (j : Int) - 1 = ((j - 1 : Nat) : Int) by omega, qbo (show -9223372036854775808 ≤ ((j - 1 : Nat) : Int) by omega) (by omega), qbN (show j - 1 < xs.length by omega), Option.bind_some]
          have e2 : decide (j = 0) = false := by simp; omega
          have e3 : decide ((j : Int) > 0) = true := by simp; omega
          rw [e2, e3]
          simp only [cond_true, Bool.false_or]
          by_cases hc : at0 xs (j - 1) < at0 xs j
          · have e1 : decide (at0 xs (j - 1) ≥ at0 xs j) = false := by simp; omega
            rw [e1]; simp only [hc, decide_true, cond_true, cond_false]; exact hX
          · have e1 : decide (at0 xs (j - 1) ≥ at0 xs j) = true := by simp; omega
            rw [e1]; simp only [hc, decide_false, cond_true, cond_false]; exact .done
  have e : axisB xs = (allN (fun j => inI (at0 xs j) 0 100000 && stepB xs j) xs.length && lenB xs 1 4) := by
    unfold axisB incB
    rw [qiG, qgY (d := 0), Bool.and_comm]
    rfl
  rw [e]
  unfold qfN
  refine Ev.bind hL ?_
  cases allN (fun j => inI (at0 xs j) 0 100000 && stepB xs j) xs.length
  · exact .done
  · simp only [cond_true, qjs, qkx, Bool.true_and]
    exact Ev.now (by congr 1; unfold lenB; rw [Bool.eq_iff_iff]; simp; omega)

def tableB (t : qC) : Bool := axisB t.Slews && (axisB t.Loads && (decide (t.Values.length = t.Slews.length * t.Loads.length) && (t.Values.all fun x => inI x (-1000000) 1000000)))

theorem qo6 {a b : Nat} (ha : a ≤ 1048576) (hb : b ≤ 1048576) : W64 ((a : Int) * (b : Int)) = ((a * b : Nat) : Int) := by
  have h : a * b ≤ 1048576 * 1048576 := Nat.mul_le_mul ha hb
  have e : (a : Int) * (b : Int) = ((a * b : Nat) : Int) := by simp
  rw [e]
  exact qbo (by omega) (by omega)

theorem qoz {t : qC} (h : qgS t) : Ev (fun n => qgW n t) (tableB t) := by
  unfold qgW tableB
  refine Ev.bind (qmO h.Slews.len) ?_
  cases axisB t.Slews
  · exact .done
  · refine Ev.tt rfl (Ev.bind (qmO h.Loads.len) ?_)
    cases axisB t.Loads
    · exact .done
    · rw [qo6 h.Slews.len h.Loads.len]
      have e : (((t.Values.length : Nat) : Int) == ((t.Slews.length * t.Loads.length : Nat) : Int)) = decide (t.Values.length = t.Slews.length * t.Loads.length) := by rw [Bool.eq_iff_iff]; simp; omega
      rw [e]
      cases decide (t.Values.length = t.Slews.length * t.Loads.length)
      · exact .done
      · exact Ev.tt rfl (Ev.tt rfl (Ev.bind (qfe h.Values.len) .done))

theorem qnI {t : qC} (h : qgS t) : Ev (fun n => qgQ n t) (tableB t) := by
  have hl := h.Values.len
  have hL : Ev (fun n => qc8 t n 0) (bif (t.Values.all fun x => inI x (-1000000) 1000000) then .nxt (t.Values.length : Int) else .ret false) :=
    qki (fun n => by simp only [qc8, qu (Nat.le_refl _), cond_false]) (fun j hj X hX => by
      simp only [qc8, qt hj, cond_true, qgB hj, Option.bind_some, qd6, qr (show j < 9223372036854775807 by omega)]
      cases inI t.Values[j] (-1000000) 1000000
      · exact .done
      · exact hX)
  unfold qgQ tableB
  refine Ev.bind (b := !(axisB t.Slews && (axisB t.Loads && decide (t.Values.length = t.Slews.length * t.Loads.length)))) ?_ ?_
  · refine Ev.bind (qmc h.Slews.len) ?_
    cases axisB t.Slews
    · exact .done
    · refine Ev.ff rfl (Ev.bind (qmc h.Loads.len) ?_)
      cases axisB t.Loads
      · exact .done
      · refine Ev.ff rfl (Ev.now ?_)
        rw [qo6 h.Slews.len h.Loads.len]
        congr 1
        rw [Bool.eq_iff_iff]; simp; omega
  · cases axisB t.Slews
    · exact .done
    · cases axisB t.Loads
      · exact .done
      · cases decide (t.Values.length = t.Slews.length * t.Loads.length)
        · exact .done
        · refine Ev.ff rfl (Ev.bind hL ?_)
          cases (t.Values.all fun x => inI x (-1000000) 1000000) <;> exact .done
end Go.Fw


namespace Go.Fw
open Go
set_option maxRecDepth 100000

instance : Inhabited qag := ⟨⟨ByteArray.empty, 0, 0, false⟩⟩
instance : Inhabited qC := ⟨⟨[], [], []⟩⟩
instance : Inhabited qX := ⟨⟨0, 0, 0, 0, [], []⟩⟩
instance : Inhabited qB := ⟨⟨ByteArray.empty, 0, [], [], [], 0, 0⟩⟩
instance : Inhabited qk := ⟨⟨ByteArray.empty, 0, []⟩⟩
instance : Inhabited qV := ⟨⟨ByteArray.empty, 0, 0⟩⟩
instance : Inhabited qQ := ⟨⟨[], [], [], []⟩⟩

theorem lastE {j m : Nat} (h : j < m) (hm : m ≤ 1048576) : ((j : Int) == W64 ((m : Int) - 1)) = decide (j + 1 = m) := by
  rcases qrn h with h | h
  · exact h
  · omega
theorem qh1 {α : Type} [Inhabited α] {xs : List α} {g : α → ByteArray} {j : Nat} (h : j < xs.length) : strAt (xs.map g) j = g (gt xs j) := by
  rw [qku (by simpa using h), qjY h]; simp
/-- Names that differ, by the list that they are taken from. -/
theorem qjz {α : Type} {xs : List α} {g : α → ByteArray} {ok : α → Prop} (h : okL ok xs) (hg : ∀ x, ok x → okS (g x)) : okL okS (xs.map g) :=
  ⟨by rw [List.length_map]; exact h.1, fun y hy => by
    obtain ⟨x, hx, rfl⟩ := List.mem_map.1 hy
    exact hg x (h.2 x hx)⟩
theorem qiD {α β : Type} {xs : List α} {g : α → β} {j : Nat} (h : j < xs.length) (hl : xs.length ≤ 1048576) {y : β} : appS ((xs.take j).map g) [y] = some ((xs.take j).map g ++ [y]) :=
  qet (by simp; omega)

/-! ### Pins -/

def pinB (ps : List qag) (j : Nat) : Bool :=
  bif decide (j + 1 = ps.length) then ((gt ps j).Dir == 2) && (((gt ps j).Cap == 0) && !(gt ps j).Clock) else ((gt ps j).Dir == 1) && inI (gt ps j).Cap 0 500
def pinsB (ps : List qag) : Bool := allN (pinB ps) ps.length && (lenB ps 2 5 && namesB (ps.map qag.Name))
def clkN (ps : List qag) (j : Nat) : Nat := cntP (fun i => (gt ps i).Clock) j

theorem qoL {ps : List qag} (h : okL qjd ps) : Ev (fun n => qgN n ps) (pinsB ps) := by
  have hl := h.len
  have hL : Ev (fun n => qbY ps n ([] : List ByteArray) 0) (bif allN (pinB ps) ps.length then .nxt (ps.map qag.Name, (ps.length : Int)) else .ret false) := by
    refine loopN (Lf := qbY ps) (S := fun j => (ps.take j).map qag.Name) (pinB ps) (fun n => ?_) (fun j hj hp X hX => ?_)
    · simp only [qbY, qu (Nat.le_refl _), cond_false, List.take_length]
    · simp only [qbY, qt hj, cond_true, qaD hj, Option.bind_some, qiD hj hl, qfX (g := qag.Name) hj, lastE hj hl, bne, qbh, qdB, qr (show j < 9223372036854775807 by omega)]
      generalize hc : pinB ps j = c at hX ⊢
      unfold pinB at hc
      cases hd : decide (j + 1 = ps.length)
      · rw [hd] at hc
        simp only [cond_false] at hc ⊢
        subst hc
        exact Ev.okP (fun h1 => Ev.okP1 (fun h2 => hX (by rw [h1, h2]; rfl)))
      · rw [hd] at hc
        simp only [cond_true] at hc ⊢
        subst hc
        refine Ev.okP (fun h1 => Ev.okP (fun h2 => Ev.chkP1 (fun h3 => hX (by rw [h1, h2, h3]; rfl))))
  unfold qgN pinsB
  refine Ev.bind hL ?_
  cases allN (pinB ps) ps.length
  · exact .done
  · simp only [cond_true, qbU, qdB, Option.bind_some, show inI (ps.length : Int) 2 5 = lenB ps 2 5 from qm9 (lo := 2) (hi := 5), Bool.true_and]
    exact Ev.andP (fun _ => Ev.last (qhG (qjz h (fun x hx => hx.Name))))

/-- A check of the reference, one pin. -/
def pinS (ps : List qag) (j : Nat) : Bool := allN (neB (ps.map qag.Name) j) j && ((nameB (gt ps j).Name && inI (gt ps j).Cap 0 500) && (bif decide (j + 1 = ps.length) then ((gt ps j).Dir == 2) && (((gt ps j).Cap == 0) && !(gt ps j).Clock) else ((gt ps j).Dir == 1)))

theorem qrj {ps : List qag} : (lenB ps 2 5 && allN (pinS ps) ps.length) = pinsB ps := by
  have e : namesB (ps.map qag.Name) = allN (fun j => nameB (gt ps j).Name && allN (neB (ps.map qag.Name) j) j) ps.length := by
    unfold namesB
    rw [List.length_map]
    exact qgh (fun j hj => by rw [qh1 hj])
  unfold pinsB
  rw [e, ← Bool.and_assoc, Bool.and_comm (allN (pinB ps) ps.length), Bool.and_assoc, ← qiG]
  congr 1
  refine qgh (fun j hj => ?_)
  unfold pinS pinB
  cases hd : decide (j + 1 = ps.length)
  · simp only [cond_false]
    cases allN (neB (ps.map qag.Name) j) j <;> cases nameB (gt ps j).Name <;> cases inI (gt ps j).Cap 0 500 <;> cases ((gt ps j).Dir == 1) <;> rfl
  · simp only [cond_true]
    cases hcap : ((gt ps j).Cap == 0)
    · simp
    · have : inI (gt ps j).Cap 0 500 = true := by rw [beq_iff_eq] at hcap; rw [hcap]; rfl
      rw [this]
      cases allN (neB (ps.map qag.Name) j) j <;> cases nameB (gt ps j).Name <;> cases ((gt ps j).Dir == 2) <;> cases (gt ps j).Clock <;> rfl

theorem qoF {c : qB} (h : okL qjd c.Pins) : Ev (fun n => qgz n c) (bif pinsB c.Pins then (((clkN c.Pins c.Pins.length : Nat) : Int), true) else (0, false)) := by
  have hl := h.len
  have hL2 : ∀ j, j < c.Pins.length → Ev (fun n => qc6 c (j : Int) (gt c.Pins j) n 0) (bif allN (neB (c.Pins.map qag.Name) j) j then .nxt (j : Int) else .ret (0, false)) := by
    intro j hj
    refine qed ?_ (fun i hi X hX => Ev.succ ?_)
    · exact Ev.succ (by simp only [qc6, qu (Nat.le_refl _), cond_false]; exact .done)
    · simp only [qc6, qt hi, cond_true, qaD (show i < c.Pins.length by omega), Option.bind_some, qf7, qr (show i < 9223372036854775807 by omega)]
      unfold neB
      rw [qh1 (g := qag.Name) (show i < c.Pins.length by omega), qh1 (g := qag.Name) hj]
      exact Ev.chkP1 (fun _ => hX)
  have hL1 : Ev (fun n => qbZ c n 0 0) (bif allN (pinS c.Pins) c.Pins.length then .nxt (((clkN c.Pins c.Pins.length : Nat) : Int), (c.Pins.length : Int)) else .ret (0, false)) := by
    refine loopN (Lf := qbZ c) (S := fun j => ((clkN c.Pins j : Nat) : Int)) (pinS c.Pins) (fun n => ?_) (fun j hj hp X hX => ?_)
    · simp only [qbZ, qu (Nat.le_refl _), cond_false]
    · have hn : clkN c.Pins j ≤ j := qfv
      have ejl : ((j : Int) == W64 ((c.Pins.length : Int) - 1)) = decide (j + 1 = c.Pins.length) := lastE hj hl
      have elt : decide ((j : Int) < W64 ((c.Pins.length : Int) - 1)) = !decide (j + 1 = c.Pins.length) := by
        rw [qbo (by omega) (by omega), Bool.eq_iff_iff]; simp; omega
      simp only [qbZ, qt hj, cond_true, qaD hj, Option.bind_some, qr (show j < 9223372036854775807 by omega), qr (show clkN c.Pins j < 9223372036854775807 by omega), ejl, elt, qd6]
      unfold pinS
      refine Ev.bind (hL2 j hj) ?_
      cases ha : allN (neB (c.Pins.map qag.Name) j) j
      · exact .done
      · simp only [cond_true, Bool.true_and]
        refine Ev.chkT ?_ (fun h1 => ?_)
        · exact Ev.or (qkb (qii h hj).Name) (fun _ => .done)
        · refine Ev.chkT1 ?_ (fun h2 => ?_)
          · cases decide (j + 1 = c.Pins.length)
            · exact .done
            · simp only [cond_true, Bool.not_true, cond_false, bne, qbh]
              cases ((gt c.Pins j).Dir == 2) <;> cases ((gt c.Pins j).Cap == 0) <;> cases (gt c.Pins j).Clock <;> exact .done
          · have hX := hX (by unfold pinS; rw [ha, h1, h2]; rfl)
            have hck : clkN c.Pins (j + 1) = clkN c.Pins j + (bif (gt c.Pins j).Clock then 1 else 0) := rfl
            rw [hck] at hX
            cases hc : (gt c.Pins j).Clock
            · rw [hc] at hX; exact Ev.ff rfl hX
            · rw [hc] at hX; exact Ev.tt rfl hX
  rw [← qrj]
  unfold qgz
  refine Ev.guard ?_ (fun h1 => ?_)
  · unfold lenB
    have e1 : decide ((c.Pins.length : Int) < 2) = !decide (2 ≤ c.Pins.length) := by rw [Bool.eq_iff_iff]; simp; omega
    have e2 : decide ((c.Pins.length : Int) > 5) = !decide (c.Pins.length ≤ 5) := by rw [Bool.eq_iff_iff]; simp; omega
    rw [e1, e2]
    cases decide (2 ≤ c.Pins.length) <;> cases decide (c.Pins.length ≤ 5) <;> exact .done
  · refine Ev.bind hL1 ?_
    cases allN (pinS c.Pins) c.Pins.length <;> exact .done

/-! ### Lists of tables -/

def mnL (xs : List Int) : Int := (xs.drop 1).foldl (fun m y => if y < m then y else m) (at0 xs 0)
def mxL (xs : List Int) : Int := (xs.drop 1).foldl (fun m y => if y > m then y else m) (at0 xs 0)

theorem qlM {t : qC} (h : tableB t = true) : 1 ≤ t.Values.length := by
  unfold tableB axisB lenB at h
  simp only [Bool.and_eq_true, decide_eq_true_eq] at h
  obtain ⟨⟨⟨h1, _⟩, _⟩, ⟨⟨h2, _⟩, _⟩, h3, _⟩ := h
  rw [h3]
  exact Nat.mul_pos h1 h2

theorem qq6 {xs : List Int} (h1 : 1 ≤ xs.length) (hl : xs.length ≤ 1048576) : Ev (fun n => qe3 n xs) (mnL xs) := by
  have hL := (qmR (Lf := fun n t j => qbG xs n t j) (xs := xs) (step := fun (m y : Int) => if y < m then y else m) (fin := fun t => (t, (xs.length : Int))) 1 (at0 xs 0) (fun _ _ => True) h1 trivial (fun _ _ _ _ => trivial)
    (fun n t => by simp only [qbG, qu (Nat.le_refl _), cond_false])
    (fun j t hj _ X hX => by simpa only [qbG, qt hj, cond_true, qgB hj, Option.bind_some, qr (show j < 9223372036854775807 by omega)] using hX)).1
  unfold qe3
  rw [show decide ((xs.length : Int) < 1) = false by simp; omega, show idx xs (0 : Int) = some (at0 xs 0) from qbN (j := 0) (by omega)]
  simp only [cond_false, Option.bind_some]
  exact Ev.bind hL .done

theorem qoD {t : qC} (h : qgS t) : Ev (fun n => qeT n t) (bif tableB t then (⟨mnL t.Values, mxL t.Values⟩, 0) else (⟨0, 0⟩, 1)) := by
  unfold qeT
  refine Ev.chk1 (qnI h) (fun hb => ?_)
  have h1 := qlM hb
  have hl := h.Values.len
  have hL := (qmR (Lf := fun n (t' : Int × Int) j => qbF t n t'.1 t'.2 j) (xs := t.Values) (step := fun (m : Int × Int) y => (if y < m.1 then y else m.1, if y > m.2 then y else m.2)) (fin := fun t' => (t'.1, t'.2, (t.Values.length : Int))) 1 (at0 t.Values 0, at0 t.Values 0) (fun _ _ => True) h1 trivial (fun _ _ _ _ => trivial)
    (fun n t => by simp only [qbF, qu (Nat.le_refl _), cond_false])
    (fun j t hj _ X hX => by simpa only [qbF, qt hj, cond_true, qgB hj, Option.bind_some, qr (show j < 9223372036854775807 by omega)] using hX)).1
  have hf : ∀ (ys : List Int) (a b : Int), ys.foldl (fun (m : Int × Int) y => (if y < m.1 then y else m.1, if y > m.2 then y else m.2)) (a, b) = (ys.foldl (fun m y => if y < m then y else m) a, ys.foldl (fun m y => if y > m then y else m) b) := by
    intro ys
    induction ys with
    | nil => intro a b; rfl
    | cons y ys ih => intro a b; simp only [List.foldl_cons, ih]
  rw [hf] at hL
  rw [show idx t.Values (0 : Int) = some (at0 t.Values 0) from qbN (j := 0) (by omega)]
  simp only [Option.bind_some]
  exact Ev.bind hL .done

def tabB (pos : Bool) (t : qC) : Bool := tableB t && (!pos || decide (0 ≤ mnL t.Values))
def tablesB (ts : List qC) (pos : Bool) : Bool := decide (ts.length = 2) && ts.all (tabB pos)

theorem qiN {ts : List qC} {pos : Bool} (h : okL qgS ts) : Ev (fun n => qd2 n ts pos) (tablesB ts pos) := by
  have hl := h.len
  have h1 : Ev (fun n => qal n ts pos) (ixL (fun x => !tabB pos x) ts) :=
    qg6 (fin := (ts.length : Int)) (Lf := qL ts pos) (pf := fun n x => qeU n x pos) (fun x hx => by
        unfold qeU tabB
        refine Ev.or (qoz (h.2 x hx)) (fun hb => ?_)
        cases pos
        · exact .done
        · refine Ev.tt rfl (Ev.bind (qq6 (qlM hb) (h.2 x hx).Values.len) (Ev.now ?_))
          congr 1
          rw [Bool.eq_iff_iff]; simp)
      (fun n => by simp only [qL, qu (Nat.le_refl _), cond_false])
      (fun n j x hx => by
        have hj := (List.getElem?_eq_some_iff.1 hx).1
        simp only [qL, qt hj, cond_true, qav hx, Option.bind_some, qr (show j < 9223372036854775807 by omega)])
      (fun n => by unfold qal; congr 1; funext o; cases o <;> rfl)
  unfold qd2 qaC tablesB
  rw [show ((ts.length : Int) == 2) = decide (ts.length = 2) by rw [Bool.eq_iff_iff]; simp; omega]
  refine Ev.andP (fun _ => Ev.bind (Ev.bind h1 (Ev.now rfl)) (Ev.now ?_))
  rw [qjh, qky]

theorem qgy {ts : List qC} {pos : Bool} (h : okL qgS ts) : Ev (fun n => qcQ n ts pos) (tablesB ts pos) := by
  unfold qcQ tablesB
  rw [show ((ts.length : Int) != 2) = !decide (ts.length = 2) by rw [Bool.eq_iff_iff]; simp; omega]
  simp only [qbh]
  refine Ev.andP (fun h2 => ?_)
  have h2 : ts.length = 2 := by simpa using h2
  have hL : Ev (fun n => qbJ ts pos n 0) (bif allN (fun j => tabB pos (gt ts j)) ts.length then .nxt (2 : Int) else .ret false) := by
    refine qed (len := ts.length) ?_ (fun j hj X hX => Ev.succ ?_)
    · rw [h2]; exact Ev.succ (by simp only [qbJ]; exact .done)
    · simp only [qbJ, show decide ((j : Int) < 2) = true by simp; omega, cond_true, qaD hj, Option.bind_some, qr (show j < 9223372036854775807 by omega)]
      refine Ev.bind (qoD (qii h hj)) ?_
      unfold tabB
      cases tableB (gt ts j)
      · exact .done
      · simp only [cond_true, Bool.true_and]
        refine Ev.ff rfl ?_
        cases pos
        · exact hX
        · refine Ev.tt rfl ?_
          rw [show decide (mnL (gt ts j).Values < 0) = !decide (0 ≤ mnL (gt ts j).Values) by rw [Bool.eq_iff_iff]; simp]
          simp only [qbh]
          exact Ev.okP1 (fun _ => hX)
  rw [qhk]
  refine Ev.bind hL ?_
  cases allN (fun j => tabB pos (gt ts j)) ts.length <;> exact .done
end Go.Fw


namespace Go.Fw
open Go
set_option maxRecDepth 100000

theorem qhr {α : Type} [Inhabited α] {xs : List α} {x : Int} (h0 : 0 ≤ x) (h1 : x < xs.length) : idx xs x = some (gt xs x.toNat) := by
  have := qaD (xs := xs) (j := x.toNat) (by omega)
  rwa [← qoW h0] at this
theorem qm2 {q : Nat → Bool} {m n : Nat} (h : m ≤ n) : cntP q m ≤ cntP q n := by
  induction n with
  | zero => obtain rfl : m = 0 := by omega
            exact Nat.le_refl _
  | succ n ih =>
    rcases Nat.lt_or_eq_of_le h with h | rfl
    · exact Nat.le_trans (ih (by omega)) (Nat.le_add_right _ _)
    · exact Nat.le_refl _
theorem qiR {m k : Nat} : decide ((m : Int) ≤ (k : Int)) = decide (m ≤ k) := by rw [Bool.eq_iff_iff]; simp
theorem qog {q : Nat → Bool} {n i j : Nat} (hi : i < j) (hj : j < n) (h1 : q i = true) (h2 : q j = true) : 2 ≤ cntP q n := by
  have e1 : cntP q (i + 1) = cntP q i + 1 := by rw [cntP, h1]; rfl
  have e2 : cntP q (j + 1) = cntP q j + 1 := by rw [cntP, h2]; rfl
  have m1 := qm2 (q := q) (show i + 1 ≤ j by omega)
  have m2 := qm2 (q := q) (show j + 1 ≤ n by omega)
  omega
theorem qqj {q : Nat → Bool} {n i j : Nat} (hn : cntP q n ≤ 1) (hi : i < n) (hj : j < n) (h1 : q i = true) (h2 : q j = true) : i = j := by
  rcases Nat.lt_trichotomy i j with h | h | h
  · have := qog h hj h1 h2; omega
  · exact h
  · have := qog h hi h2 h1; omega

/-! ### Arcs -/

def clkIx (ps : List qag) : Int := ixL (fun p => p.Clock) ps
def clkAt (ps : List qag) (x : Int) : Bool := (gt ps x.toNat).Clock

theorem qp3 {c : qB} (hl : c.Pins.length ≤ 1048576) : Ev (fun n => qfk n c) (clkIx c.Pins) := by
  unfold qfk
  refine Ev.bind (b := clkIx c.Pins) ?_ .done
  exact qg6 (fin := (c.Pins.length : Int)) (Lf := qM c.Pins) (pf := fun n x => qfu n x) (fun _ _ => .done)
    (fun n => by simp only [qM, qu (Nat.le_refl _), cond_false])
    (fun n j x hx => by
      have hj := (List.getElem?_eq_some_iff.1 hx).1
      simp only [qM, qt hj, cond_true, qav hx, Option.bind_some, qr (show j < 9223372036854775807 by omega)])
    (fun n => by unfold qaP; congr 1; funext o; cases o <;> rfl)

def arcI (ps : List qag) (a : qX) : Bool :=
  bif (a.Kind == 4) || (a.Kind == 5) then
    (a.Sense == 0) && (((a.Slew.length : Int) == 0) && (tablesB a.Delay false && ((a.From == clkIx ps) && (decide (a.From ≥ 0) && (inI a.To 0 (ps.length - 2) && !(a.To == a.From))))))
  else
    (tablesB a.Delay true && (tablesB a.Slew true && ((a.To == (ps.length : Int) - 1) && inI a.From 0 (ps.length - 2)))) &&
      (bif a.Kind == 1 then !clkAt ps a.From && inI a.Sense 1 3 else (bif (a.Kind == 2) || (a.Kind == 3) then clkAt ps a.From && (a.Sense == 0) else false))

def arcS (ps : List qag) (a : qX) : Bool :=
  (inI a.From 0 (ps.length - 2) && inI a.To 0 (ps.length - 1)) &&
    (bif a.Kind == 1 then !clkAt ps a.From && ((a.To == (ps.length : Int) - 1) && (inI a.Sense 1 3 && (tablesB a.Delay true && tablesB a.Slew true)))
     else (bif (a.Kind == 2) || (a.Kind == 3) then clkAt ps a.From && ((a.To == (ps.length : Int) - 1) && ((a.Sense == 0) && (tablesB a.Delay true && tablesB a.Slew true)))
     else (bif (a.Kind == 4) || (a.Kind == 5) then clkAt ps a.From && (decide (a.To < (ps.length : Int) - 1) && (!clkAt ps a.To && ((a.Sense == 0) && (tablesB a.Delay false && ((a.Slew.length : Int) == 0))))) else false)))

theorem qkX {c d : Bool} : (bif c then some c else some d) = some (c || d) := by cases c <;> rfl
theorem qn6 {c d : Bool} : (bif c then some true else some d) = some (c || d) := by cases c <;> rfl

theorem qoR {n : Nat} {k : Int} : qgJ n k = some ((k == 4) || (k == 5)) := by simp only [qgJ, qn6]
theorem qqw {c : qB} {a : qX} (h : okL qjd c.Pins) (ha : qkf a) (hm : 2 ≤ c.Pins.length) : Ev (fun n => qfn n c a) (arcI c.Pins a) := by
  have hl := h.len
  have e1 : W64 ((c.Pins.length : Int) - 1) = (c.Pins.length : Int) - 1 := qdc (by omega)
  have e2 : W64 ((c.Pins.length : Int) - 1 - 1) = (c.Pins.length : Int) - 2 := by rw [qbo (by omega) (by omega)]; omega
  simp only [qfn, qoR, Option.bind_some, qeF, qdh, qbU, e1, e2, qdB, qkX, bne]
  unfold arcI
  refine Ev.iff (fun _ => Ev.last ?_) (fun _ => Ev.guardB ?_ (fun hb => ?_))
  · exact Ev.andP fun _ => Ev.andP fun _ => Ev.and (qiN ha.Delay) fun _ => Ev.bind (qp3 hl) (Ev.andP fun _ => Ev.andP fun _ => Ev.andP fun _ => .done)
  · refine Ev.or (qiN ha.Delay) fun _ => Ev.or (qiN ha.Slew) fun _ => ?_
    simp only [qbh]
    exact Ev.orBP fun _ => .done
  · have hf : 0 ≤ a.From ∧ a.From ≤ (c.Pins.length : Int) - 2 := by
      simp only [Bool.and_eq_true, qdN] at hb
      exact hb.2.2.2
    simp only [qhr hf.1 (show a.From < (c.Pins.length : Int) by omega), Option.bind_some]
    exact Ev.iff (fun _ => Ev.andP fun _ => .done) (fun _ => Ev.iff (fun _ => Ev.andP fun _ => .done) (fun _ => .done))

theorem qpC {c : qB} {a : qX} (h : okL qjd c.Pins) (ha : qkf a) (hm : 2 ≤ c.Pins.length) : Ev (fun n => qhH n c a) (arcS c.Pins a) := by
  have hl := h.len
  have e1 : W64 ((c.Pins.length : Int) - 1) = (c.Pins.length : Int) - 1 := qdc (by omega)
  have e2 : W64 ((c.Pins.length : Int) - 1 - 1) = (c.Pins.length : Int) - 2 := by rw [qbo (by omega) (by omega)]; omega
  simp only [qhH, Option.bind_some, e1, e2, qd6, qkX]
  unfold arcS
  refine Ev.guardB ?_ (fun hb => ?_)
  · simp only [qbh]
    exact Ev.orBP fun _ => .done
  · have hf : (0 ≤ a.From ∧ a.From ≤ (c.Pins.length : Int) - 2) ∧ (0 ≤ a.To ∧ a.To ≤ (c.Pins.length : Int) - 1) := by
      simp only [Bool.and_eq_true, qdN] at hb
      exact hb
    simp only [qhr hf.1.1 (show a.From < (c.Pins.length : Int) by omega), qhr hf.2.1 (show a.To < (c.Pins.length : Int) by omega), Option.bind_some]
    refine Ev.iff (fun _ => ?_) (fun _ => Ev.iff (fun _ => ?_) (fun _ => Ev.iff (fun _ => ?_) (fun _ => .done)))
    · exact Ev.andP fun _ => Ev.andP fun _ => Ev.andP fun _ => Ev.and (qgy ha.Delay) fun _ => Ev.last (qgy ha.Slew)
    · exact Ev.andP fun _ => Ev.andP fun _ => Ev.andP fun _ => Ev.and (qgy ha.Delay) fun _ => Ev.last (qgy ha.Slew)
    · exact Ev.andP fun _ => Ev.andP fun _ => Ev.andP fun _ => Ev.andP fun _ => Ev.and (qgy ha.Delay) fun _ => .done

/-- The place of the clock, where there is one at most. -/
theorem qkR {ps : List qag} (h1 : clkN ps ps.length ≤ 1) {x : Int} (hx : 0 ≤ x) : clkIx ps = x ↔ x < ps.length ∧ clkAt ps x = true := by
  unfold clkIx ixL
  cases hf : ps.findIdx? (fun p => p.Clock) with
  | some j =>
    obtain ⟨hj, hp, _⟩ := List.findIdx?_eq_some_iff_getElem.1 hf
    have hpj : (gt ps j).Clock = true := by rw [qjY hj]; exact hp
    constructor
    · intro e
      have e : (j : Int) = x := e
      subst e
      exact ⟨by omega, by unfold clkAt; rw [Int.toNat_natCast]; exact hpj⟩
    · rintro ⟨hl, hc⟩
      have := qqj h1 hj (show x.toNat < ps.length by omega) hpj hc
      show (j : Int) = x
      omega
  | none =>
    have hn := List.findIdx?_eq_none_iff.1 hf
    constructor
    · intro e
      have e : (-1 : Int) = x := e
      omega
    · rintro ⟨hl, hc⟩
      have hxl : x.toNat < ps.length := by omega
      unfold clkAt at hc
      rw [qjY hxl] at hc
      have := hn _ (List.getElem_mem hxl)
      rw [hc] at this
      exact absurd this (by decide)

theorem qid {ps : List qag} (h : pinsB ps = true) : (2 ≤ ps.length ∧ ps.length ≤ 5) ∧ clkAt ps ((ps.length : Int) - 1) = false := by
  unfold pinsB lenB at h
  simp only [Bool.and_eq_true, decide_eq_true_eq] at h
  refine ⟨h.2.1, ?_⟩
  have h1 := qbi.1 h.1 (ps.length - 1) (by omega)
  unfold pinB at h1
  rw [show decide (ps.length - 1 + 1 = ps.length) = true by simp; omega] at h1
  simp only [cond_true, Bool.and_eq_true, Bool.not_eq_true'] at h1
  unfold clkAt
  rw [show ((ps.length : Int) - 1).toNat = ps.length - 1 by omega]
  exact h1.2.2

theorem qrv {ps : List qag} {a : qX} (h : pinsB ps = true) (h1 : clkN ps ps.length ≤ 1) : arcI ps a = arcS ps a := by
  obtain ⟨⟨hm, hm5⟩, hlast⟩ := qid h
  rw [Bool.eq_iff_iff]
  unfold arcI arcS
  cases h45 : ((a.Kind == 4) || (a.Kind == 5)) with
  | true =>
    have k1 : (a.Kind == 1) = false := by simp at h45 ⊢; omega
    have k23 : ((a.Kind == 2) || (a.Kind == 3)) = false := by simp at h45 ⊢; omega
    rw [k1, k23]
    simp only [cond_true, cond_false, Bool.and_eq_true, qdN, decide_eq_true_eq, beq_iff_eq, Bool.not_eq_true', beq_eq_false_iff_ne, ne_eq]
    constructor
    · rintro ⟨hs, hsl, hd, hf, hf0, ht, hne⟩
      obtain ⟨hl, hc⟩ := (qkR h1 hf0).1 hf.symm
      have hfl : a.From ≠ (ps.length : Int) - 1 := by intro e; rw [e, hlast] at hc; cases hc
      refine ⟨⟨⟨hf0, by omega⟩, ⟨ht.1, by omega⟩⟩, hc, by omega, ?_, hs, hd, hsl⟩
      cases hct : clkAt ps a.To with
      | false => rfl
      | true =>
        have := (qkR h1 ht.1).2 ⟨by omega, hct⟩
        omega
    · rintro ⟨⟨hf, ht⟩, hc, hlt, hct, hs, hd, hsl⟩
      have := (qkR h1 hf.1).2 ⟨by omega, hc⟩
      refine ⟨hs, hsl, hd, this.symm, hf.1, ⟨ht.1, by omega⟩, ?_⟩
      intro e
      rw [e, hc] at hct
      cases hct
  | false =>
    simp only [cond_false, Bool.and_eq_true, qdN, beq_iff_eq]
    cases (a.Kind == 1)
    · cases ((a.Kind == 2) || (a.Kind == 3))
      · simp
      · simp only [cond_true, cond_false, Bool.and_eq_true, beq_iff_eq]
        constructor
        · rintro ⟨⟨h1, h2, h3, h4⟩, h5, h6⟩
          exact ⟨⟨h4, by omega⟩, h5, h3, h6, h1, h2⟩
        · rintro ⟨⟨h4, h7⟩, h5, h3, h6, h1, h2⟩
          exact ⟨⟨h1, h2, h3, h4⟩, h5, h6⟩
    · simp only [cond_true, Bool.and_eq_true, qdN, Bool.not_eq_true', beq_iff_eq]
      constructor
      · rintro ⟨⟨h1, h2, h3, h4⟩, h5, h6⟩
        exact ⟨⟨h4, by omega⟩, h5, h3, h6, h1, h2⟩
      · rintro ⟨⟨h4, h7⟩, h5, h3, h6, h1, h2⟩
        exact ⟨⟨h1, h2, h3, h4⟩, h5, h6⟩

theorem qpE {ps : List qag} {a : qX} (h : arcS ps a = true) : 1 ≤ a.Kind ∧ a.Kind ≤ 5 := by
  unfold arcS at h
  rw [Bool.and_eq_true] at h
  have h := h.2
  cases h1 : (a.Kind == 1)
  · cases h2 : ((a.Kind == 2) || (a.Kind == 3))
    · cases h4 : ((a.Kind == 4) || (a.Kind == 5))
      · rw [h1, h2, h4] at h; cases h
      · simp at h4; omega
    · simp at h2; omega
  · simp at h1; omega

def sameArc (x y : qX) : Bool := (x.Kind == y.Kind) && ((x.From == y.From) && (x.To == y.To))
def newArc (ar : List qX) (j : Nat) : Bool := allN (fun i => !sameArc (gt ar i) (gt ar j)) j

theorem qot {c : qB} (h : okL qjd c.Pins) (ha : okL qkf c.Arcs) (hm : 2 ≤ c.Pins.length) : Ev (fun n => qeC n c) (allN (fun j => arcI c.Pins (gt c.Arcs j) && newArc c.Arcs j) c.Arcs.length && decide (c.Arcs.length ≤ 8)) := by
  have hl := ha.len
  have h1 : ∀ (ar : List qX) (y : qX), ar.length ≤ 1048576 → Ev (fun n => qad n ar y) (ar.any fun x => sameArc x y) := by
    intro ar y hl
    unfold qad
    refine Ev.bind (b := ixL (fun x => sameArc x y) ar) (qg6 (fin := (ar.length : Int)) (Lf := qK ar y) (pf := fun n x => qdK n x y) (fun x _ => ?_)
      (fun n => by simp only [qK, qu (Nat.le_refl _), cond_false])
      (fun n j x hx => by
        have hj := (List.getElem?_eq_some_iff.1 hx).1
        simp only [qK, qt hj, cond_true, qav hx, Option.bind_some, qr (show j < 9223372036854775807 by omega)])
      (fun n => by unfold qaJ; congr 1; funext o; cases o <;> rfl)) (Ev.now (by rw [qjh]))
    unfold qdK sameArc
    exact Ev.andP fun _ => Ev.andP fun _ => .done
  have hL : Ev (fun n => qbr c n 0) (bif allN (fun j => arcI c.Pins (gt c.Arcs j) && newArc c.Arcs j) c.Arcs.length then .nxt (c.Arcs.length : Int) else .ret false) := by
    refine qed ?_ (fun j hj X hX => Ev.succ ?_)
    · exact Ev.succ (by simp only [qbr, qu (Nat.le_refl _), cond_false]; exact .done)
    · simp only [qbr, qt hj, cond_true, qaD hj, Option.bind_some, qpn (Nat.le_of_lt hj), qr (show j < 9223372036854775807 by omega)]
      refine Ev.chk (qqw h (qii ha hj) hm) fun _ => Ev.chkT1 ?_ (fun _ => hX)
      refine (h1 _ _ (by simp; omega)).cast ?_
      rw [qp7 (Nat.le_of_lt hj)]; rfl
  unfold qeC
  refine Ev.bind hL ?_
  cases allN (fun j => arcI c.Pins (gt c.Arcs j) && newArc c.Arcs j) c.Arcs.length
  · exact .done
  · refine Ev.now ?_
    show some (decide ((c.Arcs.length : Int) ≤ ((8 : Nat) : Int))) = some (true && decide (c.Arcs.length ≤ 8))
    rw [qiR, Bool.true_and]

def hasB (ar : List qX) (k : Int) : Bool := ar.any fun a => a.Kind == k
theorem qkP {c : qB} {k : Int} (hl : c.Arcs.length ≤ 1048576) : Ev (fun n => qcI n c k) (hasB c.Arcs k) := by
  unfold qcI qaK
  exact Ev.last (Ev.bind (b := ixL (fun x => x.Kind == k) c.Arcs) (qg6 (fin := (c.Arcs.length : Int)) (Lf := qN c.Arcs k) (pf := fun n x => qgf n x k) (fun x _ => .done)
      (fun n => by simp only [qN, qu (Nat.le_refl _), cond_false])
      (fun n j x hx => by
        have hj := (List.getElem?_eq_some_iff.1 hx).1
        simp only [qN, qt hj, cond_true, qav hx, Option.bind_some, qr (show j < 9223372036854775807 by omega)])
      (fun n => by unfold qaW; congr 1; funext o; cases o <;> rfl)) (Ev.now (by rw [qjh]; rfl)))

def kindN (ar : List qX) (k : Nat) (j : Nat) : Nat := cntP (fun i => (gt ar i).Kind == (k : Int)) j
theorem qmS {ar : List qX} {k : Nat} : decide (((kindN ar k ar.length : Nat) : Int) > 0) = hasB ar k := by
  rw [show decide (((kindN ar k ar.length : Nat) : Int) > 0) = decide (0 < kindN ar k ar.length) by simp]
  unfold kindN hasB
  rw [qpT, qqf]
theorem qoo {ar : List qX} {k : Nat} : (((kindN ar k ar.length : Nat) : Int) == 0) = !hasB ar k := by
  rw [← qmS, Bool.eq_iff_iff]; simp

theorem qnP {c : qB} (ha : okL qkf c.Arcs) (hk : ∀ j, j < c.Arcs.length → 1 ≤ (gt c.Arcs j).Kind ∧ (gt c.Arcs j).Kind ≤ 5) : Ev (fun n => qf9 n c) (vecC (fun k => kindN c.Arcs k c.Arcs.length) 6) := by
  have hl := ha.len
  have hL : Ev (fun n => qb4 c n (vecC (fun _ => 0) 6) 0) (vecC (fun k => kindN c.Arcs k c.Arcs.length) 6, (c.Arcs.length : Int)) := by
    refine loopF (Lf := qb4 c) (S := fun j => vecC (fun k => kindN c.Arcs k j) 6) (len := c.Arcs.length) (fun n => ?_) (fun j hj X hX => ?_)
    · simp only [qb4, qu (Nat.le_refl _), cond_false]
    · obtain ⟨k1, k5⟩ := hk j hj
      have ek : (gt c.Arcs j).Kind = (((gt c.Arcs j).Kind.toNat : Nat) : Int) := qoW (by omega)
      have hc : kindN c.Arcs (gt c.Arcs j).Kind.toNat j ≤ j := qfv
      simp only [qb4, qt hj, cond_true, qaD hj, Option.bind_some, qr (show j < 9223372036854775807 by omega)]
      rw [ek, qic (show (gt c.Arcs j).Kind.toNat < 6 by omega)]
      simp only [Option.bind_some]
      rw [qmF (c := fun k => kindN c.Arcs k j) (by show kindN c.Arcs _ j < _; omega)]
      have : vecC (fun i => kindN c.Arcs i j + (bif decide ((gt c.Arcs j).Kind.toNat = i) then 1 else 0)) 6 = vecC (fun k => kindN c.Arcs k (j + 1)) 6 := by
        refine qh3 (fun k _ => ?_)
        show _ = kindN c.Arcs k j + (bif (gt c.Arcs j).Kind == (k : Int) then 1 else 0)
        congr 2
        rw [Bool.eq_iff_iff]; simp; omega
      rw [this]
      exact hX
  unfold qf9
  rw [show mkS 6 (0 : Int) = some (vecC (fun _ => 0) 6) from qjE (m := 6) (by omega)]
  simp only [Option.bind_some]
  exact Ev.bind hL .done

/-! ### Cells -/

def kindB (c : qB) : Bool :=
  bif c.Kind == 1 then (((clkN c.Pins c.Pins.length : Nat) : Int) == 0) && (((c.Truth.length : Int) == ((2 ^ (c.Pins.length - 1) : Nat) : Int)) && (c.Truth.all fun x => inI x 0 1))
  else bif c.Kind == 2 then (((clkN c.Pins c.Pins.length : Nat) : Int) == 1) && (((c.Truth.length : Int) == 0) && (!hasB c.Arcs 1 && !(hasB c.Arcs 2 == hasB c.Arcs 3)))
  else bif c.Kind == 3 then (((clkN c.Pins c.Pins.length : Nat) : Int) == 1) && (((c.Truth.length : Int) == 0) && (hasB c.Arcs 1 && (hasB c.Arcs 2 && !hasB c.Arcs 3)))
  else false

theorem qpq {c : qB} (h : kindB c = true) : clkN c.Pins c.Pins.length ≤ 1 := by
  unfold kindB at h
  cases h1 : (c.Kind == 1)
  · cases h2 : (c.Kind == 2)
    · cases h3 : (c.Kind == 3)
      · rw [h1, h2, h3] at h; cases h
      · rw [h1, h2, h3] at h
        simp only [cond_true, cond_false, Bool.and_eq_true, beq_iff_eq] at h
        omega
    · rw [h1, h2] at h
      simp only [cond_true, cond_false, Bool.and_eq_true, beq_iff_eq] at h
      omega
  · rw [h1] at h
    simp only [cond_true, Bool.and_eq_true, beq_iff_eq] at h
    omega

theorem qnM {m : Nat} (h1 : 2 ≤ m) (h2 : m ≤ 5) : shlS 1 (W64 ((m : Int) - 1)) = some ((2 ^ (m - 1) : Nat) : Int) ∧ shlS 1 (IntKind.wrap .u64 (W64 ((m : Int) - 1))) = some ((2 ^ (m - 1) : Nat) : Int) := by
  have : m = 2 ∨ m = 3 ∨ m = 4 ∨ m = 5 := by omega
  rcases this with rfl | rfl | rfl | rfl <;> exact ⟨by decide, by decide⟩

theorem qnU {c : qB} (hc : qjF c) (hm : 2 ≤ c.Pins.length) (hm5 : c.Pins.length ≤ 5) : Ev (fun n => qea n c) (kindB c) := by
  have hl := hc.Pins.len
  have hL : Ev (fun n => qaN c n 0 0) (((clkN c.Pins c.Pins.length : Nat) : Int), (c.Pins.length : Int)) := by
    refine loopF (Lf := qaN c) (S := fun j => ((clkN c.Pins j : Nat) : Int)) (len := c.Pins.length) (fun n => ?_) (fun j hj X hX => ?_)
    · simp only [qaN, qu (Nat.le_refl _), cond_false]
    · have hn : clkN c.Pins j ≤ j := qfv
      simp only [qaN, qt hj, cond_true, qaD hj, Option.bind_some, qr (show j < 9223372036854775807 by omega), qr (show clkN c.Pins j < 9223372036854775807 by omega)]
      have hck : clkN c.Pins (j + 1) = clkN c.Pins j + (bif (gt c.Pins j).Clock then 1 else 0) := rfl
      rw [hck] at hX
      cases hc : (gt c.Pins j).Clock
      · rw [hc] at hX; exact Ev.ff rfl hX
      · rw [hc] at hX; exact Ev.tt rfl hX
  unfold qea kindB
  refine Ev.bind hL ?_
  simp only [qdh, qbU, Option.bind_some, (qnM hm hm5).1]
  have hal := hc.Arcs.len
  refine Ev.iff (fun _ => ?_) (fun _ => Ev.iff (fun _ => ?_) (fun _ => Ev.iff (fun _ => ?_) (fun _ => .done)))
  · exact Ev.andP fun _ => Ev.andP fun _ => Ev.last (qfe hc.Truth.len)
  · exact Ev.andP fun _ => Ev.andP fun _ => Ev.bind (qkP hal) (Ev.andP fun _ => Ev.bind (qkP hal) (Ev.bind (qkP hal) .done))
  · exact Ev.andP fun _ => Ev.andP fun _ => Ev.and (qkP hal) fun _ => Ev.and (qkP hal) fun _ => Ev.bind (qkP hal) .done

def cellB (c : qB) : Bool :=
  nameB c.Name && (pinsB c.Pins && ((allN (fun j => arcI c.Pins (gt c.Arcs j) && newArc c.Arcs j) c.Arcs.length && decide (c.Arcs.length ≤ 8)) && (inI c.Leak 0 100000 && (inI c.Energy 0 100000 && kindB c))))

theorem qpm {c : qB} (hc : qjF c) : Ev (fun n => qhM n c) (cellB c) := by
  simp only [qhM, qmZ hc.Name, qdB, Option.bind_some]
  unfold cellB
  refine Ev.andP fun _ => Ev.and (qoL hc.Pins) fun hp => ?_
  obtain ⟨⟨hm, hm5⟩, _⟩ := qid hp
  exact Ev.and (qot hc.Pins hc.Arcs hm) fun _ => Ev.andP fun _ => Ev.andP fun _ => Ev.last (qnU hc hm hm5)

theorem qoN {c : qB} (hc : qjF c) : Ev (fun n => qhI n c) (cellB c) := by
  have hal := hc.Arcs.len
  have htl := hc.Truth.len
  have e : cellB c = ((pinsB c.Pins && (nameB c.Name && (decide (c.Arcs.length ≤ 8) && (inI c.Leak 0 100000 && inI c.Energy 0 100000)))) && (allN (fun j => arcS c.Pins (gt c.Arcs j) && newArc c.Arcs j) c.Arcs.length && kindB c)) := by
    unfold cellB
    cases hk : kindB c
    · simp
    · cases hp : pinsB c.Pins
      · simp
      · rw [qgh (fun j _ => by rw [qrv hp (qpq hk)])]
        cases nameB c.Name <;> cases allN (fun j => arcS c.Pins (gt c.Arcs j) && newArc c.Arcs j) c.Arcs.length <;> cases decide (c.Arcs.length ≤ 8) <;> cases inI c.Leak 0 100000 <;> cases inI c.Energy 0 100000 <;> rfl
  rw [e]
  unfold qhI
  refine Ev.bind (qoF hc.Pins) ?_
  cases hp : pinsB c.Pins
  · exact .done
  · obtain ⟨⟨hm, hm5⟩, _⟩ := qid hp
    simp only [cond_true, Bool.true_and, Bool.not_true, cond_false]
    refine Ev.guardB ?_ (fun _ => ?_)
    · simp only [qd6, Option.bind_some, qbh]
      refine Ev.orB (qkb hc.Name) fun _ => ?_
      rw [show decide ((c.Arcs.length : Int) > 8) = !decide (c.Arcs.length ≤ 8) by rw [Bool.eq_iff_iff]; simp; omega, qbh]
      exact Ev.orBP fun _ => Ev.orBP fun _ => .done
    · have hL2 : ∀ j, j < c.Arcs.length → Ev (fun n => qcl c (j : Int) (gt c.Arcs j) n 0) (bif newArc c.Arcs j then .nxt (j : Int) else .ret false) := by
        intro j hj
        refine qed ?_ (fun i hi X hX => Ev.succ ?_)
        · exact Ev.succ (by simp only [qcl, qu (Nat.le_refl _), cond_false]; exact .done)
        · simp only [qcl, qt hi, cond_true, qaD (show i < c.Arcs.length by omega), Option.bind_some, qr (show i < 9223372036854775807 by omega)]
          unfold sameArc
          cases ((gt c.Arcs i).Kind == (gt c.Arcs j).Kind)
          · exact hX
          · cases ((gt c.Arcs i).From == (gt c.Arcs j).From)
            · exact hX
            · cases ((gt c.Arcs i).To == (gt c.Arcs j).To)
              · exact hX
              · exact .done
      have hL1 : Ev (fun n => qdz c n 0) (bif allN (fun j => arcS c.Pins (gt c.Arcs j) && newArc c.Arcs j) c.Arcs.length then .nxt (c.Arcs.length : Int) else .ret false) := by
        refine qed ?_ (fun j hj X hX => Ev.succ ?_)
        · exact Ev.succ (by simp only [qdz, qu (Nat.le_refl _), cond_false]; exact .done)
        · simp only [qdz, qt hj, cond_true, qaD hj, Option.bind_some, qr (show j < 9223372036854775807 by omega)]
          refine Ev.chk (qpC hc.Pins (qii hc.Arcs hj) hm) fun _ => Ev.bind (hL2 j hj) ?_
          cases newArc c.Arcs j
          · exact .done
          · exact hX
      have hL3 : Ev (fun n => qdw c n 0) (bif (c.Truth.all fun x => inI x 0 1) then .nxt (c.Truth.length : Int) else .ret false) :=
        qki (fun n => by simp only [qdw, qu (Nat.le_refl _), cond_false]) (fun j hj X hX => by
          simp only [qdw, qt hj, cond_true, qgB hj, Option.bind_some, qd6, qr (show j < 9223372036854775807 by omega), qbh]
          exact Ev.okP1 fun _ => hX)
      refine Ev.bind hL1 ?_
      cases hA : allN (fun j => arcS c.Pins (gt c.Arcs j) && newArc c.Arcs j) c.Arcs.length
      · exact .done
      · have hk : ∀ j, j < c.Arcs.length → 1 ≤ (gt c.Arcs j).Kind ∧ (gt c.Arcs j).Kind ≤ 5 := fun j hj => by
          have := qbi.1 hA j hj
          rw [Bool.and_eq_true] at this
          exact qpE this.1
        simp only [cond_true, Bool.true_and]
        refine Ev.bind (qnP hc.Arcs hk) ?_
        simp only [(qnM hm hm5).2, Option.bind_some,
          show idx (vecC (fun k => kindN c.Arcs k c.Arcs.length) 6) (1 : Int) = some ((kindN c.Arcs 1 c.Arcs.length : Nat) : Int) from qic (k := 1) (by omega),
          show idx (vecC (fun k => kindN c.Arcs k c.Arcs.length) 6) (2 : Int) = some ((kindN c.Arcs 2 c.Arcs.length : Nat) : Int) from qic (k := 2) (by omega),
          show idx (vecC (fun k => kindN c.Arcs k c.Arcs.length) 6) (3 : Int) = some ((kindN c.Arcs 3 c.Arcs.length : Nat) : Int) from qic (k := 3) (by omega), qmS, qoo]
        unfold kindB
        refine Ev.iff (fun _ => ?_) (fun _ => Ev.iff (fun _ => ?_) (fun _ => Ev.iff (fun _ => ?_) (fun _ => .done)))
        · refine Ev.bind hL3 ?_
          cases (c.Truth.all fun x => inI x 0 1)
          · exact Ev.now (by simp)
          · exact (Ev.andP (fun _ => .done)).cast (by rw [Bool.and_true])
        · refine (Ev.andP fun _ => Ev.andP fun _ => Ev.andP fun _ => .done).cast ?_
          cases (((clkN c.Pins c.Pins.length : Nat) : Int) == 1) <;> cases ((c.Truth.length : Int) == 0) <;> cases hasB c.Arcs ((1 : Nat) : Int) <;> cases hasB c.Arcs ((2 : Nat) : Int) <;> cases hasB c.Arcs ((3 : Nat) : Int) <;> rfl
        · refine (Ev.andP fun _ => Ev.andP fun _ => Ev.andP fun _ => Ev.andP fun _ => .done).cast ?_
          cases (((clkN c.Pins c.Pins.length : Nat) : Int) == 1) <;> cases ((c.Truth.length : Int) == 0) <;> cases hasB c.Arcs ((1 : Nat) : Int) <;> cases hasB c.Arcs ((2 : Nat) : Int) <;> cases hasB c.Arcs ((3 : Nat) : Int) <;> rfl

/-! ### Libraries -/

def libB (l : qx) : Bool := l.Cells.all cellB && (decide (l.Cells.length ≤ 8) && namesB (l.Cells.map qB.Name))

theorem qnh {l : qx} (h : qgj l) : Ev (fun n => qfH n l) (libB l) := by
  have hl := h.Cells.len
  have hL : Ev (fun n => qbL l n ([] : List ByteArray) 0) (bif allN (fun j => cellB (gt l.Cells j)) l.Cells.length then .nxt (l.Cells.map qB.Name, (l.Cells.length : Int)) else .ret false) := by
    refine loopN (Lf := qbL l) (S := fun j => (l.Cells.take j).map qB.Name) (fun j => cellB (gt l.Cells j)) (fun n => ?_) (fun j hj hp X hX => ?_)
    · simp only [qbL, qu (Nat.le_refl _), cond_false, List.take_length]
    · simp only [qbL, qt hj, cond_true, qaD hj, Option.bind_some, qiD hj hl, qfX (g := qB.Name) hj, qr (show j < 9223372036854775807 by omega)]
      exact Ev.chk1 (qpm (qii h.Cells hj)) hX
  unfold qfH libB
  rw [qhk]
  refine Ev.bind hL ?_
  cases allN (fun j => cellB (gt l.Cells j)) l.Cells.length
  · exact .done
  · simp only [cond_true, Bool.true_and, show decide ((l.Cells.length : Int) ≤ 8) = decide (l.Cells.length ≤ 8) from qiR (k := 8)]
    exact Ev.andP fun _ => Ev.last (qhG (qjz h.Cells (fun x hx => hx.Name)))
end Go.Fw


namespace Go.Fw
open Go
set_option maxRecDepth 100000

theorem qoZ {c : qB} (h : cellB c = true) : nameB c.Name = true := by
  unfold cellB at h; rw [Bool.and_eq_true] at h; exact h.1
theorem qlV {c : qB} (h : cellB c = true) : pinsB c.Pins = true := by
  unfold cellB at h; simp only [Bool.and_eq_true] at h; exact h.2.1

theorem qmk {l : qx} (h : qgj l) : Ev (fun n => qfC n l) (libB l) := by
  have hl := h.Cells.len
  have hL2 : ∀ j, j < l.Cells.length → Ev (fun n => qch l (j : Int) n 0) (bif allN (neB (l.Cells.map qB.Name) j) j then .nxt (j : Int) else .ret false) := by
    intro j hj
    refine qed ?_ (fun i hi X hX => Ev.succ ?_)
    · exact Ev.succ (by simp only [qch, qu (Nat.le_refl _), cond_false]; exact .done)
    · simp only [qch, qt hi, cond_true, qaD (show i < l.Cells.length by omega), qaD hj, Option.bind_some, qf7, qr (show i < 9223372036854775807 by omega)]
      unfold neB
      rw [qh1 (g := qB.Name) (show i < l.Cells.length by omega), qh1 (g := qB.Name) hj]
      exact Ev.chkP1 (fun _ => hX)
  have hL1 : Ev (fun n => qce l n 0) (bif allN (fun j => cellB (gt l.Cells j) && allN (neB (l.Cells.map qB.Name) j) j) l.Cells.length then .nxt (l.Cells.length : Int) else .ret false) := by
    refine qed ?_ (fun j hj X hX => Ev.succ ?_)
    · exact Ev.succ (by simp only [qce, qu (Nat.le_refl _), cond_false]; exact .done)
    · simp only [qce, qt hj, cond_true, qaD hj, Option.bind_some, qr (show j < 9223372036854775807 by omega)]
      refine Ev.chk (qoN (qii h.Cells hj)) fun _ => Ev.bind (hL2 j hj) ?_
      cases allN (neB (l.Cells.map qB.Name) j) j
      · exact .done
      · exact hX
  have e : libB l = (allN (fun j => cellB (gt l.Cells j) && allN (neB (l.Cells.map qB.Name) j) j) l.Cells.length && decide (l.Cells.length ≤ 8)) := by
    unfold libB namesB
    rw [qhk, List.length_map, Bool.and_comm (decide (l.Cells.length ≤ 8)), ← Bool.and_assoc, ← qiG]
    congr 1
    refine qgh (fun j hj => ?_)
    rw [qh1 (g := qB.Name) hj]
    cases hc : cellB (gt l.Cells j)
    · rfl
    · rw [qoZ hc]; rfl
  rw [e]
  unfold qfC
  refine Ev.bind hL1 ?_
  cases allN (fun j => cellB (gt l.Cells j) && allN (neB (l.Cells.map qB.Name) j) j) l.Cells.length
  · exact .done
  · refine Ev.now ?_
    show some (decide ((l.Cells.length : Int) ≤ ((8 : Nat) : Int))) = some (true && decide (l.Cells.length ≤ 8))
    rw [qiR, Bool.true_and]

theorem qiv {c c' : Nat → Nat} {m : Nat} {x : Int} (h0 : 0 ≤ x) (h1 : x < m) (hc : c x.toNat < 9223372036854775807) (he : ∀ k, k < m → c' k = c k + (bif x == (k : Int) then 1 else 0)) :
    idx (vecC c m) x = some (c x.toNat : Int) ∧ setS (vecC c m) x (W64 ((c x.toNat : Int) + 1)) = vecC c' m := by
  have ex : x = (x.toNat : Int) := qoW h0
  have e1 := qic (c := c) (m := m) (k := x.toNat) (by omega)
  have e2 := qmF (c := c) (m := m) (k := x.toNat) hc
  rw [← ex] at e1 e2
  refine ⟨e1, e2.trans (qh3 (fun k hk => ?_))⟩
  rw [he k hk]
  congr 2
  rw [Bool.eq_iff_iff]; simp; omega

/-! ### Parts of a design -/

def netB (d : ql) (x : Int) : Bool := inI x 0 ((d.Nets.length : Int) - 1)
theorem qn3 {n : Nat} {d : ql} {x : Int} (hl : d.Nets.length ≤ 1048576) : qcN n d x = some (netB d x) := by
  simp only [qcN, qfb, Option.bind_some, qdB, qdc (show d.Nets.length ≤ 9223372036854775807 by omega)]; rfl
theorem qmG {n : Nat} {d : ql} {x : Int} (hl : d.Nets.length ≤ 1048576) : qar n x 0 (W64 ((d.Nets.length : Int) - 1)) = some (netB d x) := by
  rw [qd6, qdc (show d.Nets.length ≤ 9223372036854775807 by omega)]; rfl

def hasNamesB (d : ql) : Bool := (decide (d.Instances.length ≤ 14) && (decide (d.Nets.length ≤ 30) && decide (d.Ports.length ≤ 8))) && (namesB (d.Instances.map qk.Name) && (namesB d.Nets && namesB (d.Ports.map qV.Name)))

theorem qnQ {d : ql} (h : qh0 d) : Ev (fun n => qdy n d) (hasNamesB d) := by
  have hli := h.Instances.len
  have hlp := h.Ports.len
  have hL1 : Ev (fun n => qaL d n ([] : List ByteArray) 0) (d.Instances.map qk.Name, (d.Instances.length : Int)) := by
    refine loopF (Lf := qaL d) (S := fun j => (d.Instances.take j).map qk.Name) (len := d.Instances.length) (fun n => ?_) (fun j hj X hX => ?_)
    · simp only [qaL, qu (Nat.le_refl _), cond_false, List.take_length]
    · simpa only [qaL, qt hj, cond_true, qaD hj, Option.bind_some, qiD hj hli, qfX (g := qk.Name) hj, qr (show j < 9223372036854775807 by omega)] using hX
  have hL2 : Ev (fun n => qaM d n ([] : List ByteArray) 0) (d.Ports.map qV.Name, (d.Ports.length : Int)) := by
    refine loopF (Lf := qaM d) (S := fun j => (d.Ports.take j).map qV.Name) (len := d.Ports.length) (fun n => ?_) (fun j hj X hX => ?_)
    · simp only [qaM, qu (Nat.le_refl _), cond_false, List.take_length]
    · simpa only [qaM, qt hj, cond_true, qaD hj, Option.bind_some, qiD hj hlp, qfX (g := qV.Name) hj, qr (show j < 9223372036854775807 by omega)] using hX
  unfold qdy hasNamesB
  refine Ev.bind hL1 (Ev.bind hL2 ?_)
  simp only [List.length_map]
  rw [show decide ((d.Instances.length : Int) ≤ 14) = decide (d.Instances.length ≤ 14) from qiR (k := 14), show decide ((d.Nets.length : Int) ≤ 30) = decide (d.Nets.length ≤ 30) from qiR (k := 30), show decide ((d.Ports.length : Int) ≤ 8) = decide (d.Ports.length ≤ 8) from qiR (k := 8)]
  rw [Bool.and_assoc, Bool.and_assoc]
  exact Ev.andP fun _ => Ev.andP fun _ => Ev.andP fun _ => Ev.and (qhG (qjz h.Instances (fun x hx => hx.Name))) fun _ => Ev.and (qhG h.Nets) fun _ => Ev.last (qhG (qjz h.Ports (fun x hx => hx.Name)))

def instB (l : qx) (d : ql) (x : qk) : Bool := inI x.Cell 0 ((l.Cells.length : Int) - 1) && (((x.Nets.length : Int) == ((gt l.Cells x.Cell.toNat).Pins.length : Int)) && x.Nets.all (netB d))

theorem qml {d : ql} {l : qx} {x : qk} (hn : d.Nets.length ≤ 1048576) (hc : l.Cells.length ≤ 1048576) (hx : x.Nets.length ≤ 1048576) : Ev (fun n => qcS n d l x) (instB l d x) := by
  simp only [qcS, qej, Option.bind_some, qdB, qdc (show l.Cells.length ≤ 9223372036854775807 by omega)]
  unfold instB
  refine Ev.andP fun hI => ?_
  rw [qdN] at hI
  rw [qhr hI.1 (by omega)]
  simp only [Option.bind_some]
  refine Ev.andP fun _ => Ev.bind (b := x.Nets.any fun y => !netB d y) ?_ (Ev.now (by rw [qky]))
  unfold qaq
  exact Ev.bind (b := ixL (fun y => !netB d y) x.Nets) (qg6 (fin := (x.Nets.length : Int)) (Lf := qJ x.Nets d) (pf := fun n y => qco n y d) (fun y _ => ⟨0, fun n _ => by simp only [qco, qn3 hn, Option.bind_some]⟩)
      (fun n => by simp only [qJ, qu (Nat.le_refl _), cond_false])
      (fun n j y hx => by
        have hj := (List.getElem?_eq_some_iff.1 hx).1
        simp only [qJ, qt hj, cond_true, qav hx, Option.bind_some, qr (show j < 9223372036854775807 by omega)])
      (fun n => by unfold qaB; congr 1; funext o; cases o <;> rfl)) (Ev.now (by rw [qjh]))

def portB (d : ql) (p : qV) : Bool := inI p.Dir 1 2 && netB d p.Net
theorem qrB {x : Int} : inI x 1 2 = ((x == 1) || (x == 2)) := by
  unfold inI; rw [Bool.eq_iff_iff]; simp; omega

/-- The net that an instance drives. -/
def lastN (x : qk) : Int := at0 x.Nets (x.Nets.length - 1)
theorem qnL {x : qk} (h1 : 1 ≤ x.Nets.length) (h2 : x.Nets.length ≤ 1048576) : idx x.Nets (W64 ((x.Nets.length : Int) - 1)) = some (lastN x) := by
  rw [qdc (by omega), show ((x.Nets.length : Int) - 1) = ((x.Nets.length - 1 : Nat) : Int) by omega, qbN (by omega)]; rfl
theorem qo8 {d : ql} {x : qk} (h1 : 1 ≤ x.Nets.length) (h : x.Nets.all (netB d) = true) : 0 ≤ lastN x ∧ lastN x < d.Nets.length := by
  rw [qgY (d := 0), qbi] at h
  have := h (x.Nets.length - 1) (by omega)
  unfold netB at this
  rw [qdN] at this
  unfold lastN at0
  omega
theorem qlN {l : qx} {d : ql} {x : qk} (hl : libB l = true) (h : instB l d x = true) : 1 ≤ x.Nets.length ∧ 0 ≤ lastN x ∧ lastN x < d.Nets.length := by
  unfold instB at h
  simp only [Bool.and_eq_true, qdN, beq_iff_eq] at h
  obtain ⟨h1, h2, h3⟩ := h
  unfold libB at hl
  simp only [Bool.and_eq_true] at hl
  have hc := hl.1
  rw [qhk, qbi] at hc
  have := qid (qlV (hc x.Cell.toNat (by omega)))
  have h4 : 1 ≤ x.Nets.length := by omega
  exact ⟨h4, qo8 h4 h3⟩

def drvI (d : ql) (k j : Nat) : Nat := cntP (fun i => lastN (gt d.Instances i) == (k : Int)) j
def drvP (d : ql) (k j : Nat) : Nat := cntP (fun i => ((gt d.Ports i).Dir == 1) && ((gt d.Ports i).Net == (k : Int))) j
def drvB (d : ql) : Bool := allN (fun k => ((drvI d k d.Instances.length + drvP d k d.Ports.length : Nat) : Int) == 1) d.Nets.length
def designB (l : qx) (d : ql) : Bool := (libB l && hasNamesB d) && (d.Instances.all (instB l d) && (d.Ports.all (portB d) && drvB d))

theorem qm1 {d : ql} {k j : Nat} : drvI d k (j + 1) = drvI d k j + (bif lastN (gt d.Instances j) == (k : Int) then 1 else 0) := rfl
theorem qjH {d : ql} {k j : Nat} : drvP d k (j + 1) = drvP d k j + (bif ((gt d.Ports j).Dir == 1) && ((gt d.Ports j).Net == (k : Int)) then 1 else 0) := rfl

theorem qod {l : qx} {d : ql} (h : qgj l) (hd : qh0 d) : Ev (fun n => qga n l d) (designB l d) := by
  have hli := hd.Instances.len
  have hlp := hd.Ports.len
  have hln := hd.Nets.len
  have hlc := h.Cells.len
  unfold qga designB
  refine Ev.guardB (Ev.or (qnh h) fun _ => Ev.neg (qnQ hd)) fun hb => ?_
  rw [Bool.and_eq_true] at hb
  rw [qjE (m := d.Nets.length) (by omega)]
  simp only [Option.bind_some]
  have hL1 : Ev (fun n => qb6 l d n (vecC (fun _ => 0) d.Nets.length) 0) (bif allN (fun j => instB l d (gt d.Instances j)) d.Instances.length then .nxt (vecC (fun k => drvI d k d.Instances.length) d.Nets.length, (d.Instances.length : Int)) else .ret false) := by
    refine loopN (Lf := qb6 l d) (S := fun j => vecC (fun k => drvI d k j) d.Nets.length) (fun j => instB l d (gt d.Instances j)) (fun n => ?_) (fun j hj hp X hX => ?_)
    · simp only [qb6, qu (Nat.le_refl _), cond_false]
    · simp only [qb6, qt hj, cond_true, qaD hj, Option.bind_some, qr (show j < 9223372036854775807 by omega)]
      have hxl := (qii hd.Instances hj).Nets.len
      refine Ev.chk1 (qml hln hlc hxl) fun hi => ?_
      obtain ⟨h1, h2, h3⟩ := qlN hb.1 hi
      have hc : drvI d (lastN (gt d.Instances j)).toNat j ≤ j := qfv
      obtain ⟨e1, e2⟩ := qiv (c := fun k => drvI d k j) (c' := fun k => drvI d k (j + 1)) h2 h3 (by show drvI _ _ _ < _; omega) (fun k _ => qm1)
      simp only [qnL h1 hxl, Option.bind_some, e1, e2]
      exact hX hi
  have hL2 : Ev (fun n => qbA d n (vecC (fun k => drvI d k d.Instances.length) d.Nets.length) 0) (bif allN (fun j => portB d (gt d.Ports j)) d.Ports.length then .nxt (vecC (fun k => drvI d k d.Instances.length + drvP d k d.Ports.length) d.Nets.length, (d.Ports.length : Int)) else .ret false) := by
    refine loopN (Lf := qbA d) (S := fun j => vecC (fun k => drvI d k d.Instances.length + drvP d k j) d.Nets.length) (fun j => portB d (gt d.Ports j)) (fun n => ?_) (fun j hj hp X hX => ?_)
    · simp only [qbA, qu (Nat.le_refl _), cond_false]
    · simp only [qbA, qt hj, cond_true, qaD hj, Option.bind_some, qn3 hln, bne, qr (show j < 9223372036854775807 by omega)]
      refine Ev.chkT1 ?_ fun hi => ?_
      · unfold portB
        rw [qrB]
        cases ((gt d.Ports j).Dir == 1) <;> cases ((gt d.Ports j).Dir == 2) <;> exact .done
      · have hX := hX hi
        unfold portB netB at hi
        simp only [Bool.and_eq_true, qdN] at hi
        have hc1 : drvI d (gt d.Ports j).Net.toNat d.Instances.length ≤ d.Instances.length := qfv
        have hc2 : drvP d (gt d.Ports j).Net.toNat j ≤ j := qfv
        cases h1 : ((gt d.Ports j).Dir == 1)
        · have : vecC (fun k => drvI d k d.Instances.length + drvP d k (j + 1)) d.Nets.length = vecC (fun k => drvI d k d.Instances.length + drvP d k j) d.Nets.length := by
            refine qh3 (fun k _ => ?_)
            rw [qjH, h1]; rfl
          rw [this] at hX
          exact hX
        · obtain ⟨e1, e2⟩ := qiv (c := fun k => drvI d k d.Instances.length + drvP d k j) (c' := fun k => drvI d k d.Instances.length + drvP d k (j + 1)) (x := (gt d.Ports j).Net) (m := d.Nets.length) hi.2.1 (by omega) (by show drvI _ _ _ + drvP _ _ _ < _; omega) (fun k _ => by rw [qjH, h1, Bool.true_and]; omega)
          simp only [cond_true, Option.bind_some, e1, e2]
          exact hX
  rw [qhk, qhk]
  refine Ev.bind hL1 ?_
  cases allN (fun j => instB l d (gt d.Instances j)) d.Instances.length
  · exact .done
  · refine Ev.bind hL2 ?_
    cases allN (fun j => portB d (gt d.Ports j)) d.Ports.length
    · exact .done
    · simp only [cond_true, Bool.true_and]
      unfold qa7
      refine Ev.bind (b := (vecC (fun k => drvI d k d.Instances.length + drvP d k d.Ports.length) d.Nets.length).any fun x => !(x == 1)) (Ev.bind (b := ixL (fun x => !(x == 1)) (vecC (fun k => drvI d k d.Instances.length + drvP d k d.Ports.length) d.Nets.length)) (qg6 (fin := (((vecC (fun k => drvI d k d.Instances.length + drvP d k d.Ports.length) d.Nets.length).length : Nat) : Int)) (Lf := qT (vecC (fun k => drvI d k d.Instances.length + drvP d k d.Ports.length) d.Nets.length)) (pf := fun n y => qge n y) (fun y _ => .done)
        (fun n => by simp only [qT, qu (Nat.le_refl _), cond_false])
        (fun n j y hx => by
          have hj := (List.getElem?_eq_some_iff.1 hx).1
          have : j < d.Nets.length := by rw [qja] at hj; exact hj
          simp only [qT, qt hj, cond_true, qav hx, Option.bind_some, qr (show j < 9223372036854775807 by omega)])
        (fun n => by unfold qbl; congr 1; funext o; cases o <;> rfl)) (Ev.now (by rw [qjh]))) (Ev.now ?_)
      rw [qky, qgY (d := 0), qja]
      unfold drvB
      congr 1
      exact qgh (fun k hk => by
        have := qnT (c := fun k => drvI d k d.Instances.length + drvP d k d.Ports.length) hk
        unfold at0 at this
        rw [this])

theorem qnE {l : qx} {d : ql} (h : qgj l) (hd : qh0 d) : Ev (fun n => qf2 n l d) (d.Instances.all (instB l d) && d.Ports.all (portB d)) := by
  have hli := hd.Instances.len
  have hlp := hd.Ports.len
  have hln := hd.Nets.len
  have hlc := h.Cells.len
  have hL2 : ∀ x : qk, x.Nets.length ≤ 1048576 → Ev (fun n => qcF d x n 0) (bif x.Nets.all (netB d) then .nxt (x.Nets.length : Int) else .ret false) := fun x hx =>
    qki (fun n => by simp only [qcF, qu (Nat.le_refl _), cond_false]) (fun j hj X hX => by
      simp only [qcF, qt hj, cond_true, qgB hj, Option.bind_some, qmG hln, qr (show j < 9223372036854775807 by omega), qbh]
      exact Ev.okP1 fun _ => hX)
  have hL1 : Ev (fun n => qcE l d n 0) (bif allN (fun j => instB l d (gt d.Instances j)) d.Instances.length then .nxt (d.Instances.length : Int) else .ret false) := by
    refine qed ?_ (fun j hj X hX => Ev.succ ?_)
    · exact Ev.succ (by simp only [qcE, qu (Nat.le_refl _), cond_false]; exact .done)
    · simp only [qcE, qt hj, cond_true, qaD hj, Option.bind_some, qd6, qdc (show l.Cells.length ≤ 9223372036854775807 by omega), qr (show j < 9223372036854775807 by omega), bne]
      have hxl := (qii hd.Instances hj).Nets.len
      unfold instB
      rw [← Bool.and_assoc]
      refine Ev.chkT ?_ fun _ => Ev.bind (hL2 _ hxl) ?_
      · simp only [qbh]
        refine Ev.orBP fun hI => ?_
        rw [qdN] at hI
        rw [qhr hI.1 (by omega)]
        exact .done
      · cases (gt d.Instances j).Nets.all (netB d)
        · exact .done
        · exact hX
  have hL3 : Ev (fun n => qcz d n 0) (bif allN (fun j => portB d (gt d.Ports j)) d.Ports.length then .nxt (d.Ports.length : Int) else .ret false) := by
    refine qed ?_ (fun j hj X hX => Ev.succ ?_)
    · exact Ev.succ (by simp only [qcz, qu (Nat.le_refl _), cond_false]; exact .done)
    · simp only [qcz, qt hj, cond_true, qaD hj, Option.bind_some, qmG hln, qr (show j < 9223372036854775807 by omega)]
      simp only [qd6, Option.bind_some, qbh]
      unfold portB
      exact Ev.okP fun _ => Ev.okP1 fun _ => hX
  unfold qf2
  rw [qhk, qhk]
  refine Ev.bind hL1 ?_
  cases allN (fun j => instB l d (gt d.Instances j)) d.Instances.length
  · exact .done
  · refine Ev.bind hL3 ?_
    cases allN (fun j => portB d (gt d.Ports j)) d.Ports.length <;> exact .done

theorem qnt {l : qx} {d : ql} (h : qgj l) (hd : qh0 d) : Ev (fun n => qf4 n l d) (designB l d) := by
  have hli := hd.Instances.len
  have hlp := hd.Ports.len
  have hln := hd.Nets.len
  have hlc := h.Cells.len
  have e : designB l d = ((libB l && (decide (d.Instances.length ≤ 14) && (decide (d.Nets.length ≤ 30) && (decide (d.Ports.length ≤ 8) && (d.Instances.all (instB l d) && d.Ports.all (portB d)))))) && ((namesB (d.Instances.map qk.Name) && (namesB (d.Ports.map qV.Name) && namesB d.Nets)) && drvB d)) := by
    unfold designB hasNamesB
    generalize libB l = a1
    generalize decide (d.Instances.length ≤ 14) = a2
    generalize decide (d.Nets.length ≤ 30) = a3
    generalize decide (d.Ports.length ≤ 8) = a4
    generalize d.Instances.all (instB l d) = a5
    generalize d.Ports.all (portB d) = a6
    generalize namesB (d.Instances.map qk.Name) = a7
    generalize namesB (d.Ports.map qV.Name) = a8
    generalize namesB d.Nets = a9
    generalize drvB d = a10
    rw [Bool.eq_iff_iff]
    simp only [Bool.and_eq_true]
    constructor
    · rintro ⟨⟨h1, ⟨h2, h3, h4⟩, h7, h9, h8⟩, h5, h6, h10⟩
      exact ⟨⟨h1, h2, h3, h4, h5, h6⟩, ⟨h7, h8, h9⟩, h10⟩
    · rintro ⟨⟨h1, h2, h3, h4, h5, h6⟩, ⟨h7, h8, h9⟩, h10⟩
      exact ⟨⟨h1, ⟨h2, h3, h4⟩, h7, h9, h8⟩, h5, h6, h10⟩
  rw [e]
  unfold qf4
  refine Ev.guardB ?_ fun hb => ?_
  · refine Ev.or (qmk h) fun _ => ?_
    rw [show decide ((d.Instances.length : Int) > 14) = !decide (d.Instances.length ≤ 14) by rw [Bool.eq_iff_iff]; simp; omega, show decide ((d.Nets.length : Int) > 30) = !decide (d.Nets.length ≤ 30) by rw [Bool.eq_iff_iff]; simp; omega, show decide ((d.Ports.length : Int) > 8) = !decide (d.Ports.length ≤ 8) by rw [Bool.eq_iff_iff]; simp; omega]
    simp only [qbh]
    exact Ev.orBP fun _ => Ev.orBP fun _ => Ev.orBP fun _ => Ev.neg (qnE h hd)
  · simp only [Bool.and_eq_true] at hb
    obtain ⟨hlib, _, _, _, hI, hP⟩ := hb
    rw [qhk, qbi] at hI hP
    have hL1 : Ev (fun n => qb7 d n ([] : List ByteArray) 0) (d.Instances.map qk.Name, (d.Instances.length : Int)) := by
      refine loopF (Lf := qb7 d) (S := fun j => (d.Instances.take j).map qk.Name) (len := d.Instances.length) (fun n => ?_) (fun j hj X hX => ?_)
      · simp only [qb7, qu (Nat.le_refl _), cond_false, List.take_length]
      · simpa only [qb7, qt hj, cond_true, qaD hj, Option.bind_some, qiD hj hli, qfX (g := qk.Name) hj, qr (show j < 9223372036854775807 by omega)] using hX
    have hL2 : Ev (fun n => qb8 d n ([] : List ByteArray) 0) (d.Ports.map qV.Name, (d.Ports.length : Int)) := by
      refine loopF (Lf := qb8 d) (S := fun j => (d.Ports.take j).map qV.Name) (len := d.Ports.length) (fun n => ?_) (fun j hj X hX => ?_)
      · simp only [qb8, qu (Nat.le_refl _), cond_false, List.take_length]
      · simpa only [qb8, qt hj, cond_true, qaD hj, Option.bind_some, qiD hj hlp, qfX (g := qV.Name) hj, qr (show j < 9223372036854775807 by omega)] using hX
    have hL3 : Ev (fun n => qb5 d n (vecC (fun _ => 0) d.Nets.length) 0) (vecC (fun k => drvI d k d.Instances.length) d.Nets.length, (d.Instances.length : Int)) := by
      refine loopF (Lf := qb5 d) (S := fun j => vecC (fun k => drvI d k j) d.Nets.length) (len := d.Instances.length) (fun n => ?_) (fun j hj X hX => ?_)
      · simp only [qb5, qu (Nat.le_refl _), cond_false]
      · have hxl := (qii hd.Instances hj).Nets.len
        obtain ⟨h1, h2, h3⟩ := qlN hlib (hI j hj)
        have hc : drvI d (lastN (gt d.Instances j)).toNat j ≤ j := qfv
        obtain ⟨e1, e2⟩ := qiv (c := fun k => drvI d k j) (c' := fun k => drvI d k (j + 1)) h2 h3 (by show drvI _ _ _ < _; omega) (fun k _ => qm1)
        simpa only [qb5, qt hj, cond_true, qaD hj, Option.bind_some, qr (show j < 9223372036854775807 by omega), qnL h1 hxl, e1, e2] using hX
    have hL4 : Ev (fun n => qbB d n (vecC (fun k => drvI d k d.Instances.length) d.Nets.length) 0) (vecC (fun k => drvI d k d.Instances.length + drvP d k d.Ports.length) d.Nets.length, (d.Ports.length : Int)) := by
      refine loopF (Lf := qbB d) (S := fun j => vecC (fun k => drvI d k d.Instances.length + drvP d k j) d.Nets.length) (len := d.Ports.length) (fun n => ?_) (fun j hj X hX => ?_)
      · simp only [qbB, qu (Nat.le_refl _), cond_false]
      · have hi := hP j hj
        unfold portB netB at hi
        simp only [Bool.and_eq_true, qdN] at hi
        have hc1 : drvI d (gt d.Ports j).Net.toNat d.Instances.length ≤ d.Instances.length := qfv
        have hc2 : drvP d (gt d.Ports j).Net.toNat j ≤ j := qfv
        simp only [qbB, qt hj, cond_true, qaD hj, Option.bind_some, qr (show j < 9223372036854775807 by omega)]
        cases h1 : ((gt d.Ports j).Dir == 1)
        · have : vecC (fun k => drvI d k d.Instances.length + drvP d k (j + 1)) d.Nets.length = vecC (fun k => drvI d k d.Instances.length + drvP d k j) d.Nets.length := by
            refine qh3 (fun k _ => ?_)
            rw [qjH, h1]; rfl
          rw [this] at hX
          exact hX
        · obtain ⟨e1, e2⟩ := qiv (c := fun k => drvI d k d.Instances.length + drvP d k j) (c' := fun k => drvI d k d.Instances.length + drvP d k (j + 1)) (x := (gt d.Ports j).Net) (m := d.Nets.length) hi.2.1 (by omega) (by show drvI _ _ _ + drvP _ _ _ < _; omega) (fun k _ => by rw [qjH, h1, Bool.true_and]; omega)
          simp only [cond_true, Option.bind_some, e1, e2]
          exact hX
    have hL5 : Ev (fun n => qcA (vecC (fun _ => 0) d.Nets.length) (vecC (fun k => drvI d k d.Instances.length + drvP d k d.Ports.length) d.Nets.length) n 0) (bif drvB d then .nxt (d.Nets.length : Int) else .ret false) := by
      refine qed ?_ (fun j hj X hX => Ev.succ ?_)
      · exact Ev.succ (by simp only [qcA, qja, qu (Nat.le_refl _), cond_false]; exact .done)
      · simp only [qcA, qja, qt hj, cond_true, qic hj, Option.bind_some, bne, qbh, qr (show j < 9223372036854775807 by omega)]
        exact Ev.okP1 fun _ => hX
    refine Ev.bind hL1 (Ev.bind hL2 ?_)
    refine Ev.guardB (Ev.or (qji (qjz hd.Instances (fun x hx => hx.Name))) fun _ => Ev.or (qji (qjz hd.Ports (fun x hx => hx.Name))) fun _ => Ev.neg (qji hd.Nets)) fun _ => ?_
    rw [qjE (m := d.Nets.length) (by omega)]
    simp only [Option.bind_some]
    refine Ev.bind hL3 (Ev.bind hL4 (Ev.bind hL5 ?_))
    cases drvB d <;> exact .done
end Go.Fw


namespace Go.Fw
open Go
set_option maxRecDepth 100000

theorem qq3 {m k : Nat} : decide ((m : Int) < (k : Int)) = !decide (k ≤ m) := by rw [Bool.eq_iff_iff]; simp
theorem qjB {m k : Nat} : decide ((m : Int) > (k : Int)) = !decide (m ≤ k) := by rw [Bool.eq_iff_iff]; simp
/-! ### Wires -/

def treeB (w : qQ) (j : Nat) : Bool := bif decide (j = 0) then (at0 w.Parent j == -1) && (at0 w.Res j == 0) else inI (at0 w.Parent j) 0 ((j : Int) - 1)
def wireB (w : qQ) (s : Int) : Bool :=
  lenB w.Parent 1 8 && (((w.Res.length : Int) == (w.Parent.length : Int)) && (((w.Cap.length : Int) == (w.Parent.length : Int)) && (allN (treeB w) w.Parent.length &&
    ((w.Res.all fun x => inI x 0 1000) && ((w.Cap.all fun x => inI x 0 500) && (((w.Sink.length : Int) == s) && (w.Sink.all fun x => inI x 0 ((w.Parent.length : Int) - 1))))))))

theorem qpo {w : qQ} (hl : w.Parent.length ≤ 1048576) (hr : ((w.Res.length : Int) == (w.Parent.length : Int)) = true) : Ev (fun n => qe5 n w) (allN (treeB w) w.Parent.length) := by
  rw [beq_iff_eq] at hr
  have hL : Ev (fun n => qaQ w n 0) (bif allN (treeB w) w.Parent.length then .nxt (w.Parent.length : Int) else .ret false) := by
    refine qed ?_ (fun j hj X hX => Ev.succ ?_)
    · exact Ev.succ (by simp only [qaQ, qu (Nat.le_refl _), cond_false]; exact .done)
    · simp only [qaQ, qt hj, cond_true, qbN hj, Option.bind_some, qdB, qr (show j < 9223372036854775807 by omega), bne, qbh]
      unfold treeB
      by_cases h0 : j = 0
      · subst h0
        rw [show idx w.Res (0 : Int) = some (at0 w.Res 0) from qbN (j := 0) (by omega)]
        simp only [Option.bind_some]
        refine Ev.tt (by simp) (Ev.okP fun _ => Ev.okP1 fun _ => Ev.ff (by simp) hX)
      · have e1 : decide (j = 0) = false := by simp; omega
        have e2 : ((j : Int) == 0) = false := by simp; omega
        have e3 : decide ((j : Int) > 0) = true := by simp; omega
        rw [e1, e2, e3, qdc (show j ≤ 9223372036854775807 by omega)]
        simp only [cond_false, cond_true]
        exact Ev.okP1 fun _ => hX
  unfold qe5
  refine Ev.bind hL ?_
  cases allN (treeB w) w.Parent.length <;> exact .done

theorem qpi {w : qQ} {s : Int} (h : qks w) : Ev (fun n => qhN n w s) (wireB w s) := by
  have hl := h.Parent.len
  simp only [qhN, qas, Option.bind_some, qdB, qdc (show w.Parent.length ≤ 9223372036854775807 by omega)]
  unfold wireB
  rw [show inI (w.Parent.length : Int) 1 8 = lenB w.Parent 1 8 from qm9 (lo := 1) (hi := 8)]
  exact Ev.andP fun _ => Ev.andP fun hr => Ev.andP fun _ => Ev.and (qpo hl hr) fun _ => Ev.and (qfe h.Res.len) fun _ => Ev.and (qfe h.Cap.len) fun _ => Ev.andP fun _ => Ev.last (qfe h.Sink.len)

theorem qoj {w : qQ} {s : Int} (h : qks w) : Ev (fun n => qhF n w s) (wireB w s) := by
  have hl := h.Parent.len
  have hsl := h.Sink.len
  have e : wireB w s = ((decide (1 ≤ w.Parent.length) && (decide (w.Parent.length ≤ 8) && (((w.Res.length : Int) == (w.Parent.length : Int)) && (((w.Cap.length : Int) == (w.Parent.length : Int)) && ((w.Sink.length : Int) == s))))) && (allN (fun j => (inI (at0 w.Cap j) 0 500 && inI (at0 w.Res j) 0 1000) && treeB w j) w.Parent.length && (w.Sink.all fun x => inI x 0 ((w.Parent.length : Int) - 1)))) := by
    unfold wireB lenB
    cases h1 : ((w.Res.length : Int) == (w.Parent.length : Int))
    · simp
    · cases h2 : ((w.Cap.length : Int) == (w.Parent.length : Int))
      · simp
      · rw [beq_iff_eq] at h1 h2
        rw [qiG, qiG]
        rw [qgY (p := fun x => inI x 0 1000) (d := 0), qgY (p := fun x => inI x 0 500) (d := 0), show w.Res.length = w.Parent.length by omega, show w.Cap.length = w.Parent.length by omega]
        show _ = (_ && ((allN (fun j => inI (w.Cap.getD j 0) 0 500) _ && allN (fun j => inI (w.Res.getD j 0) 0 1000) _ && _) && _))
        generalize allN (fun j => inI (w.Cap.getD j 0) 0 500) w.Parent.length = a1
        generalize allN (fun j => inI (w.Res.getD j 0) 0 1000) w.Parent.length = a2
        generalize allN (fun j => treeB w j) w.Parent.length = a3
        generalize ((w.Sink.length : Int) == s) = a4
        generalize decide (1 ≤ w.Parent.length) = a5
        generalize decide (w.Parent.length ≤ 8) = a6
        generalize (w.Sink.all fun x => inI x 0 ((w.Parent.length : Int) - 1)) = a7
        cases a1 <;> cases a2 <;> cases a3 <;> cases a4 <;> cases a5 <;> cases a6 <;> rfl
  rw [e]
  unfold qhF
  refine Ev.guardB ?_ fun hb => ?_
  · rw [show decide ((w.Parent.length : Int) < 1) = !decide (1 ≤ w.Parent.length) from qq3 (k := 1), show decide ((w.Parent.length : Int) > 8) = !decide (w.Parent.length ≤ 8) from qjB (k := 8)]
    simp only [bne, qbh]
    exact Ev.orBP fun _ => Ev.orBP fun _ => Ev.orBP fun _ => Ev.orBP fun _ => .done
  · simp only [Bool.and_eq_true, beq_iff_eq] at hb
    have hL1 : Ev (fun n => qbP w n 0) (bif allN (fun j => (inI (at0 w.Cap j) 0 500 && inI (at0 w.Res j) 0 1000) && treeB w j) w.Parent.length then .nxt (w.Parent.length : Int) else .ret false) := by
      refine qed ?_ (fun j hj X hX => Ev.succ ?_)
      · exact Ev.succ (by simp only [qbP, qu (Nat.le_refl _), cond_false]; exact .done)
      · simp only [qbP, qt hj, cond_true, qbN hj, qbN (show j < w.Cap.length by omega), qbN (show j < w.Res.length by omega), Option.bind_some, qd6, qr (show j < 9223372036854775807 by omega), bne, qbh]
        refine Ev.chkT (Ev.orBP fun _ => .done) fun _ => ?_
        unfold treeB
        by_cases h0 : j = 0
        · subst h0
          refine Ev.tt (by simp) (Ev.okP fun _ => Ev.okP1 fun _ => Ev.ff (by simp) hX)
        · have e1 : decide (j = 0) = false := by simp; omega
          have e2 : ((j : Int) == 0) = false := by simp; omega
          have e3 : decide ((j : Int) > 0) = true := by simp; omega
          rw [e1, e2, e3, qdc (show j ≤ 9223372036854775807 by omega)]
          simp only [cond_false, cond_true]
          exact Ev.okP1 fun _ => hX
    have hL2 : Ev (fun n => qdr w n 0) (bif (w.Sink.all fun x => inI x 0 ((w.Parent.length : Int) - 1)) then .nxt (w.Sink.length : Int) else .ret false) :=
      qki (fun n => by simp only [qdr, qu (Nat.le_refl _), cond_false]) (fun j hj X hX => by
        simp only [qdr, qt hj, cond_true, qgB hj, Option.bind_some, qd6, qdc (show w.Parent.length ≤ 9223372036854775807 by omega), qr (show j < 9223372036854775807 by omega), qbh]
        exact Ev.okP1 fun _ => hX)
    refine Ev.bind hL1 ?_
    cases allN (fun j => (inI (at0 w.Cap j) 0 500 && inI (at0 w.Res j) 0 1000) && treeB w j) w.Parent.length
    · exact .done
    · refine Ev.bind hL2 ?_
      cases (w.Sink.all fun x => inI x 0 ((w.Parent.length : Int) - 1)) <;> exact .done

/-! ### Places -/

instance : Inhabited Tplace := ⟨⟨0, 0, 0, false⟩⟩
instance : Inhabited Tl05Place := ⟨⟨0, 0, 0, false⟩⟩
def toSp (p : Tplace) : Tl05Place := ⟨p.instance_, p.pin, p.net, p.drives⟩
def plX (i : Nat) (x : qk) (j : Nat) : List Tplace := (List.range j).map fun (k : Nat) => ⟨(i : Int), (k : Int), at0 x.Nets k, decide (k + 1 = x.Nets.length)⟩
def plI (d : ql) (j : Nat) : List Tplace := (List.range j).flatMap fun (i : Nat) => plX i (gt d.Instances i) (gt d.Instances i).Nets.length
def plP (d : ql) (j : Nat) : List Tplace := (List.range j).map fun (i : Nat) => ⟨-1, (i : Int), (gt d.Ports i).Net, (gt d.Ports i).Dir == 1⟩
def places (d : ql) : List Tplace := plI d d.Instances.length ++ plP d d.Ports.length

theorem qn1 {i : Nat} {x : qk} {j : Nat} : plX i x (j + 1) = plX i x j ++ [⟨(i : Int), (j : Int), at0 x.Nets j, decide (j + 1 = x.Nets.length)⟩] := by
  unfold plX; rw [List.range_succ, List.map_append]; rfl
theorem qi8 {d : ql} {j : Nat} : plI d (j + 1) = plI d j ++ plX j (gt d.Instances j) (gt d.Instances j).Nets.length := by
  unfold plI; rw [List.range_succ, List.flatMap_append]; simp
theorem qnJ {d : ql} {j : Nat} : plP d (j + 1) = plP d j ++ [⟨-1, (j : Int), (gt d.Ports j).Net, (gt d.Ports j).Dir == 1⟩] := by
  unfold plP; rw [List.range_succ, List.map_append]; rfl
theorem qlz {i : Nat} {x : qk} {j : Nat} : (plX i x j).length = j := by simp [plX]
theorem qlB {d : ql} {j : Nat} : (plP d j).length = j := by simp [plP]

/-- What a valid design says of its sizes. -/
structure smallD (d : ql) : Prop where
  ni : d.Instances.length ≤ 14
  nn : d.Nets.length ≤ 30
  np : d.Ports.length ≤ 8
  nx : ∀ i, i < d.Instances.length → 2 ≤ (gt d.Instances i).Nets.length ∧ (gt d.Instances i).Nets.length ≤ 5

theorem qcm {l : qx} {d : ql} (h : designB l d = true) : smallD d := by
  unfold designB hasNamesB libB at h
  simp only [Bool.and_eq_true, decide_eq_true_eq] at h
  obtain ⟨⟨⟨hc, _⟩, ⟨h1, h2, h3⟩, _⟩, hI, _⟩ := h
  refine ⟨h1, h2, h3, fun i hi => ?_⟩
  rw [qhk, qbi] at hI hc
  have := hI i hi
  unfold instB at this
  simp only [Bool.and_eq_true, qdN, beq_iff_eq] at this
  have h5 := qid (qlV (hc (gt d.Instances i).Cell.toNat (by omega)))
  omega
theorem qkk {d : ql} (h : smallD d) {j : Nat} (hj : j ≤ d.Instances.length) : (plI d j).length ≤ 5 * j := by
  induction j with
  | zero => exact Nat.le_refl _
  | succ j ih =>
    rw [qi8, List.length_append, qlz]
    have := ih (by omega)
    have := h.nx j (by omega)
    omega
theorem qeK {d : ql} (h : smallD d) : (places d).length ≤ 78 := by
  unfold places
  rw [List.length_append, qlB]
  have := qkk h (Nat.le_refl _)
  have := h.ni
  have := h.np
  omega

theorem qjD {d : ql} (h : smallD d) : Ev (fun n => qbT n d) (places d) := by
  have h1 := h.ni
  have h2 := h.np
  have hL2 : ∀ i, i < d.Instances.length → ∀ pre : List Tplace, pre.length ≤ 100 → Ev (fun n => qa1 (i : Int) (gt d.Instances i) n pre 0) (pre ++ plX i (gt d.Instances i) (gt d.Instances i).Nets.length, ((gt d.Instances i).Nets.length : Int)) := by
    intro i hi pre hp
    have h5 := h.nx i hi
    have := loopF (Lf := qa1 (i : Int) (gt d.Instances i)) (S := fun j => pre ++ plX i (gt d.Instances i) j) (len := (gt d.Instances i).Nets.length) (fin := (pre ++ plX i (gt d.Instances i) (gt d.Instances i).Nets.length, ((gt d.Instances i).Nets.length : Int))) (fun n => by
        simp only [qa1, qu (Nat.le_refl _), cond_false])
      (fun j hj X hX => by
        have hc : (pre ++ plX i (gt d.Instances i) j).length + [(⟨(i : Int), (j : Int), at0 (gt d.Instances i).Nets j, decide (j + 1 = (gt d.Instances i).Nets.length)⟩ : Tplace)].length ≤ 2147483648 := by
          rw [List.length_append, qlz]; simp; omega
        simp only [qa1, qt hj, cond_true, qbN hj, Option.bind_some, lastE hj (show (gt d.Instances i).Nets.length ≤ 1048576 by omega), qet hc, List.append_assoc, ← qn1, qr (show j < 9223372036854775807 by omega)]
        exact hX)
    simpa [plX] using this
  have hL1 : Ev (fun n => qaZ d n ([] : List Tplace) 0) (plI d d.Instances.length, (d.Instances.length : Int)) := by
    refine loopF (Lf := qaZ d) (S := fun j => plI d j) (len := d.Instances.length) (fun n => ?_) (fun j hj X hX => ?_)
    · simp only [qaZ, qu (Nat.le_refl _), cond_false]
    · simp only [qaZ, qt hj, cond_true, qaD hj, Option.bind_some, qr (show j < 9223372036854775807 by omega)]
      refine Ev.bind (hL2 j hj _ (by have := qkk h (Nat.le_of_lt hj); omega)) ?_
      rw [← qi8]
      exact hX
  have hL3 : Ev (fun n => qa0 d n (plI d d.Instances.length) 0) (places d, (d.Ports.length : Int)) := by
    have := loopF (Lf := qa0 d) (S := fun j => plI d d.Instances.length ++ plP d j) (len := d.Ports.length) (fin := (places d, (d.Ports.length : Int))) (fun n => by
        simp only [qa0, qu (Nat.le_refl _), cond_false]; rfl)
      (fun j hj X hX => by
        have hc : (plI d d.Instances.length ++ plP d j).length + [(⟨-1, (j : Int), (gt d.Ports j).Net, (gt d.Ports j).Dir == 1⟩ : Tplace)].length ≤ 2147483648 := by
          rw [List.length_append, qlB]; have := qkk h (Nat.le_refl _); simp; omega
        simp only [qa0, qt hj, cond_true, qaD hj, Option.bind_some, qet hc, List.append_assoc, ← qnJ, qr (show j < 9223372036854775807 by omega)]
        exact hX)
    simpa [plP] using this
  unfold qbT
  exact Ev.bind hL1 (Ev.bind hL3 .done)

theorem qj9 {d : ql} (h : smallD d) : Ev (fun n => qeY n d) ((places d).map toSp) := by
  have h1 := h.ni
  have h2 := h.np
  have hL2 : ∀ i, i < d.Instances.length → ∀ pre : List Tplace, pre.length ≤ 100 → Ev (fun n => qbK (i : Int) (gt d.Instances i) n (pre.map toSp) 0) ((pre ++ plX i (gt d.Instances i) (gt d.Instances i).Nets.length).map toSp, ((gt d.Instances i).Nets.length : Int)) := by
    intro i hi pre hp
    have h5 := h.nx i hi
    have := loopF (Lf := qbK (i : Int) (gt d.Instances i)) (S := fun j => (pre ++ plX i (gt d.Instances i) j).map toSp) (len := (gt d.Instances i).Nets.length) (fin := ((pre ++ plX i (gt d.Instances i) (gt d.Instances i).Nets.length).map toSp, ((gt d.Instances i).Nets.length : Int))) (fun n => by
        simp only [qbK, qu (Nat.le_refl _), cond_false])
      (fun j hj X hX => by
        have hc : ((pre ++ plX i (gt d.Instances i) j).map toSp).length + [(⟨(i : Int), (j : Int), at0 (gt d.Instances i).Nets j, decide (j + 1 = (gt d.Instances i).Nets.length)⟩ : Tl05Place)].length ≤ 2147483648 := by
          rw [List.length_map, List.length_append, qlz]; simp; omega
        simp only [qbK, qt hj, cond_true, qbN hj, Option.bind_some, lastE hj (show (gt d.Instances i).Nets.length ≤ 1048576 by omega), qet hc, qr (show j < 9223372036854775807 by omega)]
        rw [qn1, ← List.append_assoc, List.map_append] at hX
        exact hX)
    simpa [plX] using this
  have hL1 : Ev (fun n => qbI d n ([] : List Tl05Place) 0) ((plI d d.Instances.length).map toSp, (d.Instances.length : Int)) := by
    refine loopF (Lf := qbI d) (S := fun j => (plI d j).map toSp) (len := d.Instances.length) (fun n => ?_) (fun j hj X hX => ?_)
    · simp only [qbI, qu (Nat.le_refl _), cond_false]
    · simp only [qbI, qt hj, cond_true, qaD hj, Option.bind_some, qr (show j < 9223372036854775807 by omega)]
      refine Ev.bind (hL2 j hj _ (by have := qkk h (Nat.le_of_lt hj); omega)) ?_
      rw [← qi8]
      exact hX
  have hL3 : Ev (fun n => qbM d n ((plI d d.Instances.length).map toSp) 0) ((places d).map toSp, (d.Ports.length : Int)) := by
    have := loopF (Lf := qbM d) (S := fun j => (plI d d.Instances.length ++ plP d j).map toSp) (len := d.Ports.length) (fin := ((places d).map toSp, (d.Ports.length : Int))) (fun n => by
        simp only [qbM, qu (Nat.le_refl _), cond_false]; rfl)
      (fun j hj X hX => by
        have hc : ((plI d d.Instances.length ++ plP d j).map toSp).length + [(⟨-1, (j : Int), (gt d.Ports j).Net, (gt d.Ports j).Dir == 1⟩ : Tl05Place)].length ≤ 2147483648 := by
          rw [List.length_map, List.length_append, qlB]; have := qkk h (Nat.le_refl _); simp; omega
        simp only [qbM, qt hj, cond_true, qaD hj, Option.bind_some, qet hc, qr (show j < 9223372036854775807 by omega)]
        rw [qnJ, ← List.append_assoc, List.map_append] at hX
        exact hX)
    simpa [plP] using this
  unfold qeY
  exact Ev.bind hL1 (Ev.bind hL3 .done)

def snkQ (d : ql) (k : Int) (i : Nat) : Bool := ((gt (places d) i).net == k) && !(gt (places d) i).drives
def sinksL (d : ql) (k : Int) (j : Nat) : List Int := ((List.range j).filter (snkQ d k)).map fun (i : Nat) => (i : Int)
def snkN (d : ql) (k : Int) : Nat := cntP (snkQ d k) (places d).length
theorem qjq {d : ql} {k : Int} {j : Nat} : sinksL d k (j + 1) = sinksL d k j ++ (bif snkQ d k j then [(j : Int)] else []) := by
  unfold sinksL
  rw [List.range_succ, List.filter_append, List.map_append]
  congr 1
  cases h : snkQ d k j <;> simp [h]
theorem qhi {d : ql} {k : Int} {j : Nat} : (sinksL d k j).length = cntP (snkQ d k) j := by
  induction j with
  | zero => rfl
  | succ j ih =>
    rw [qjq, List.length_append, ih]
    show _ = cntP (snkQ d k) j + _
    congr 1
    cases snkQ d k j <;> rfl
theorem qrF {α β : Type} [Inhabited α] [Inhabited β] {xs : List α} {g : α → β} {j : Nat} (h : j < xs.length) : gt (xs.map g) j = g (gt xs j) := by
  rw [qjY (by simpa using h), qjY h]; simp

theorem qn0 {d : ql} {k : Int} (h : smallD d) : Ev (fun n => qf6 n d k) (sinksL d k (places d).length) := by
  have hl := qeK h
  have hL : Ev (fun n => qbz k ((places d).map toSp) n ([] : List Int) 0) (sinksL d k (places d).length, ((places d).length : Int)) := by
    refine loopF (Lf := qbz k ((places d).map toSp)) (S := fun j => sinksL d k j) (len := (places d).length) (fun n => ?_) (fun j hj X hX => ?_)
    · simp only [qbz, List.length_map, qu (Nat.le_refl _), cond_false]
    · have hj' : j < ((places d).map toSp).length := by simpa using hj
      have hc : (sinksL d k j).length + [(j : Int)].length ≤ 2147483648 := by
        rw [qhi]
        have : cntP (snkQ d k) j ≤ j := qfv
        simp; omega
      simp only [qbz, qt hj', cond_true, qaD hj', qrF hj, Option.bind_some, qr (show j < 9223372036854775807 by omega)]
      rw [show ∀ p : Tplace, (toSp p).net = p.net from fun _ => rfl, show ∀ p : Tplace, (toSp p).drives = p.drives from fun _ => rfl]
      refine Ev.bind (b := snkQ d k j) (Ev.andP fun _ => .done) ?_
      rw [qjq] at hX
      cases hq : snkQ d k j
      · rw [hq] at hX
        simp only [cond_false, List.append_nil] at hX ⊢
        exact hX
      · rw [hq] at hX
        simp only [cond_true, qet hc, Option.bind_some] at hX ⊢
        exact hX
  unfold qf6
  exact Ev.bind (qj9 h) (Ev.bind hL .done)

theorem qmh {l : qx} {d : ql} (h : designB l d = true) {i : Nat} (hi : i < (places d).length) : 0 ≤ (gt (places d) i).net ∧ (gt (places d) i).net < d.Nets.length := by
  unfold designB at h
  simp only [Bool.and_eq_true] at h
  obtain ⟨_, hI, hP, _⟩ := h
  rw [qhk, qbi] at hI hP
  have hm : gt (places d) i ∈ places d := by rw [qjY hi]; exact List.getElem_mem hi
  generalize gt (places d) i = p at hm
  unfold places at hm
  rcases List.mem_append.1 hm with hm | hm
  · unfold plI at hm
    obtain ⟨i, hi, hm⟩ := List.mem_flatMap.1 hm
    unfold plX at hm
    obtain ⟨k, hk, rfl⟩ := List.mem_map.1 hm
    have := hI i (List.mem_range.1 hi)
    unfold instB at this
    simp only [Bool.and_eq_true] at this
    have h3 := this.2.2
    rw [qgY (d := 0), qbi] at h3
    have h4 := h3 k (List.mem_range.1 hk)
    unfold netB at h4
    rw [qdN] at h4
    show 0 ≤ at0 _ _ ∧ at0 _ _ < _
    unfold at0
    omega
  · unfold plP at hm
    obtain ⟨i, hi, rfl⟩ := List.mem_map.1 hm
    have := hP i (List.mem_range.1 hi)
    unfold portB netB at this
    simp only [Bool.and_eq_true, qdN] at this
    show 0 ≤ (gt d.Ports i).Net ∧ (gt d.Ports i).Net < _
    omega

/-! ### Blocks -/

def blockB (b : qD) : Bool := (designB b.Library b.Design && ((b.Wires.length : Int) == (b.Design.Nets.length : Int))) && allN (fun j => wireB (gt b.Wires j) (snkN b.Design (j : Int))) b.Wires.length

theorem ql5 {b : qD} (h : qg1 b) : Ev (fun n => qgU n b) (blockB b) := by
  have hwl := h.Wires.len
  unfold qgU blockB
  refine Ev.guardB (Ev.or (qod h.Library h.Design) fun _ => .done) fun hb => ?_
  rw [Bool.and_eq_true, beq_iff_eq] at hb
  obtain ⟨hd, hw⟩ := hb
  have hs := qcm hd
  have hl := qeK hs
  have hn := hs.nn
  rw [qjE (m := b.Wires.length) (by omega)]
  simp only [Option.bind_some]
  have hL1 : Ev (fun n => qb1 (places b.Design) n (vecC (fun _ => 0) b.Wires.length) 0) (vecC (fun k => snkN b.Design (k : Int)) b.Wires.length, ((places b.Design).length : Int)) := by
    refine loopF (Lf := qb1 (places b.Design)) (S := fun j => vecC (fun k => cntP (snkQ b.Design (k : Int)) j) b.Wires.length) (len := (places b.Design).length) (fun n => ?_) (fun j hj X hX => ?_)
    · simp only [qb1, qu (Nat.le_refl _), cond_false]; rfl
    · simp only [qb1, qt hj, cond_true, qaD hj, Option.bind_some, qr (show j < 9223372036854775807 by omega)]
      obtain ⟨n0, n1⟩ := qmh hd hj
      cases h1 : (gt (places b.Design) j).drives
      · have hc : cntP (snkQ b.Design (((gt (places b.Design) j).net.toNat : Nat) : Int)) j ≤ j := qfv
        obtain ⟨e1, e2⟩ := qiv (c := fun k => cntP (snkQ b.Design (k : Int)) j) (c' := fun k => cntP (snkQ b.Design (k : Int)) (j + 1)) (x := (gt (places b.Design) j).net) (m := b.Wires.length) n0 (by omega) (by show cntP _ _ < _; omega) (fun k _ => by
          show cntP _ j + (bif snkQ b.Design (k : Int) j then 1 else 0) = _
          unfold snkQ
          rw [h1, Bool.not_false, Bool.and_true])
        simp only [Bool.not_false, cond_true, Option.bind_some, e1, e2]
        exact hX
      · have : vecC (fun k => cntP (snkQ b.Design (k : Int)) (j + 1)) b.Wires.length = vecC (fun k => cntP (snkQ b.Design (k : Int)) j) b.Wires.length := by
          refine qh3 (fun k _ => ?_)
          show cntP _ j + (bif snkQ b.Design (k : Int) j then 1 else 0) = _
          unfold snkQ
          rw [h1, Bool.not_true, Bool.and_false]; rfl
        rw [this] at hX
        exact hX
  have hL2 : Ev (fun n => qc0 b (vecC (fun k => snkN b.Design (k : Int)) b.Wires.length) n 0) (bif allN (fun j => wireB (gt b.Wires j) (snkN b.Design (j : Int))) b.Wires.length then .nxt (b.Wires.length : Int) else .ret false) := by
    refine qed ?_ (fun j hj X hX => Ev.succ ?_)
    · exact Ev.succ (by simp only [qc0, qu (Nat.le_refl _), cond_false]; exact .done)
    · simp only [qc0, qt hj, cond_true, qaD hj, qic hj, Option.bind_some, qr (show j < 9223372036854775807 by omega)]
      exact Ev.chk1 (qpi (qii h.Wires hj)) fun _ => hX
  refine Ev.bind (qjD hs) (Ev.bind hL1 (Ev.bind hL2 ?_))
  cases allN (fun j => wireB (gt b.Wires j) (snkN b.Design (j : Int))) b.Wires.length <;> exact .done

theorem qk1 {b : qD} (h : qg1 b) : Ev (fun n => qfO n b) (blockB b) := by
  have hwl := h.Wires.len
  unfold qfO blockB
  refine Ev.guardB (Ev.or (qnt h.Library h.Design) fun _ => .done) fun hb => ?_
  rw [Bool.and_eq_true] at hb
  have hs := qcm hb.1
  have hL : Ev (fun n => qc3 b n 0) (bif allN (fun j => wireB (gt b.Wires j) (snkN b.Design (j : Int))) b.Wires.length then .nxt (b.Wires.length : Int) else .ret false) := by
    refine qed ?_ (fun j hj X hX => Ev.succ ?_)
    · exact Ev.succ (by simp only [qc3, qu (Nat.le_refl _), cond_false]; exact .done)
    · simp only [qc3, qt hj, cond_true, qaD hj, Option.bind_some, qr (show j < 9223372036854775807 by omega)]
      refine Ev.bind (qn0 hs) ?_
      rw [qhi]
      exact Ev.chk1 (qoj (qii h.Wires hj)) fun _ => hX
  refine Ev.bind hL ?_
  cases allN (fun j => wireB (gt b.Wires j) (snkN b.Design (j : Int))) b.Wires.length <;> exact .done
end Go.Fw
