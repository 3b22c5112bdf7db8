/- By a program of mine (gen.py): for each function a plain function and the proof that the code computes it. -/
import Derived.Test.YtihkipojhdehnaaGreatDoorA3
import Derived.Test.YtihkipojhdehnaaGreatDoorFw34

namespace Go.Fw
open Go Go.Proofs
open Go.RowKit (Below)
set_option maxRecDepth 100000
set_option maxHeartbeats 1600000
def qhc (n : Nat) (t : qJ) : Option Bool :=
 (qgS n t.Slews).bind fun r1 =>
 bif r1 then
  (qgS n t.Loads).bind fun r2 =>
  bif r2 then
   bif ((t.Values.length : Int) == (W64 ((t.Slews.length : Int) * (t.Loads.length : Int)))) then
    (qby n t.Values (-1000000) 1000000).bind fun r3 =>
    some r3
   else
    some false
  else
   some false
 else
  some false

theorem qlI {n : Nat} {w : World} {t : qJ} {cs1 : List Value} (ha1 : GoT.R w (old w) t cs1) {r : Bool} (hF : qhc n t = some r) : RetV Tryz.prog 256 [GoT.v qJ cs1] w r := by
 obtain ⟨p1, k1, p2, k2, p3, k3, rfl, s1, s2, s3⟩ := qbP ha1
 refine qf Tryz.func256 rfl (m := 29) rfl rfl (fun h => ?_)
 rw [qhc] at hF
 refine zSR (qP h rfl rfl ?_)
 intro w1 bb1 h
 refine zp1 rfl (zNSR (zp1 rfl (zl 0 0 h rfl ?_)))
 obtain ⟨r1, hr1, hF⟩ := qd hF
 refine qm r1 h call265 (qjN ⟨_, _, rfl, (h.oldS s1)⟩ hr1) rfl rfl rfl rfl ?_
 intro w2 h
 refine zp1 rfl ?_
 by_cases hc1 : r1 = true
 ·replace hF := bifT hc1 hF
  refine qC hc1 (t := 6) rfl (qa rfl (zp1 rfl (qa rfl (zl 0 1 h rfl (qa rfl ?_)))))
  obtain ⟨r2, hr2, hF⟩ := qd hF
  refine qm r2 h call265 (qjN ⟨_, _, rfl, (h.oldS s2)⟩ hr2) rfl rfl rfl rfl ?_
  intro w3 h
  refine zp2 rfl ?_
  by_cases hc2 : r2 = true
  ·replace hF := bifT hc2 hF
   refine qC hc2 (t := 11) rfl (qa rfl (zp1 rfl (qa rfl (zl 0 2 h rfl (qa rfl (zp1 rfl (qa rfl (zp1 rfl (qa rfl (zl 0 0 h rfl (qa rfl ?_)))))))))))
   refine zp1 rfl (qa rfl (zp1 rfl (qa rfl (zl 0 1 h rfl (qa rfl (zp1 rfl (qa rfl (zp1 rfl (qa rfl (zp2 rfl ?_))))))))))
   refine zp1 rfl ?_
   by_cases hc3 : ((t.Values.length : Int) == (W64 ((t.Slews.length : Int) * (t.Loads.length : Int)))) = true
   ·replace hF := bifT hc3 hF
    refine qC hc3 (t := 24) rfl (qa rfl (zp1 rfl (qa rfl (zl 0 2 h rfl (qa rfl ?_)))))
    obtain ⟨r3, hr3, hF⟩ := qd hF
    refine qm r3 h call112 (qct ⟨_, _, rfl, (h.oldS s3)⟩ hr3) rfl rfl rfl rfl ?_
    intro w4 h
    exact zp2 rfl (qb (qx qc h hF ⟨rfl, trivial⟩))
   replace hc3 := zb hc3
   replace hF := bifF hc3 hF
   exact qD hc3 (t := 24) rfl (zn3 rfl (zp2 rfl (qb (qx qc h hF ⟨rfl, trivial⟩))))
  replace hc2 := zb hc2
  replace hF := bifF hc2 hF
  refine qD hc2 (t := 11) rfl (zn5 rfl (zn5 rfl (zn1 rfl ?_)))
  exact zp2 rfl (zn3 rfl (zp2 rfl (qb (qx qc h hF ⟨rfl, trivial⟩))))
 replace hc1 := zb hc1
 replace hF := bifF hc1 hF
 refine qD hc1 (t := 6) rfl (zn3 rfl (zp2 rfl (zn5 rfl (zn1 rfl ?_))))
 refine zn5 rfl (zp2 rfl (zn3 rfl (zp2 rfl ?_)))
 exact qb (qx qc h hF ⟨rfl, trivial⟩)

def qbQ (x : (List Int)) : Nat → Int → Int → Option (Int × Int)
 | 0, _, _ => none
 | n + 1, i1, i2 =>
  bif decide (i2 < (x.length : Int)) then
   (idx x i2).bind fun y2 =>
   qbQ x n (if y2 < i1 then y2 else i1) (W64 (i2 + 1))
  else
   some (i1, i2)

def qfb (n : Nat) (x : (List Int)) : Option Int :=
 (
  bif decide ((x.length : Int) < 1) then
   none
  else
   some ()).bind fun _ =>
 (idx x 0).bind fun y1 =>
 (qbQ x n y1 1).bind fun o => match o with
 | (i1, _) =>
  some i1

theorem qkr {n : Nat} {w : World} {x : (List Int)} {cs1 : List Value} (ha1 : GoT.R w (old w) x cs1) {r : Int} (hF : qfb n x = some r) : RetV Tryz.prog 257 [GoT.v (List Int) cs1] w r := by
 obtain ⟨p1, k1, rfl, s1⟩ := ha1
 refine qf Tryz.func257 rfl (m := 25) rfl rfl (fun h => ?_)
 rw [qfb] at hF
 refine zSR (zp1 rfl (zNSSR (zp3 rfl (qb ?_))))
 obtain ⟨KF1, hKF1, o2, hF, hK2⟩ := bindE hF
 refine qdR (fun e w' => KF1 () = some r ∧ e = [(0, .slice p1 x.length k1)] ∧ SH w w' []) ?_ ?_
 ·refine qp rfl hF ?_ ?_ <;> intro hF
  ·refine qB ?_
   cases hF
  refine qd1 ?_
  obtain rfl := qj hF
  exact qu [(0, _)] ⟨rfl, trivial⟩ ⟨hK2, rfl, h⟩
 rintro e2 w2 ⟨hF, rfl, h⟩
 subst hKF1
 refine zSR (zp1 rfl ?_)
 obtain ⟨y1, hy1, hF⟩ := qd hF
 have he1 := qg hy1
 obtain ⟨b1, o_1, q1, cs2, hp1, hq1, -, hr1, hc1⟩ := s1.at hy1
 obtain rfl := hr1
 refine zxe hp1 hq1 he1 rfl (zc 0 (hc1.below h.below) rfl (zp1 rfl (zNSSR (zp1 rfl (qb ?_)))))
 obtain ⟨o1, hF, hK1⟩ := qd hF
 refine qA (qW [(0, _), (3, _), (4, _)] ⟨rfl, rfl, rfl, trivial⟩ ?_)
 refine qG (fun m e w' => ∃ (i1 : Int) (i2 : Int), qbQ x m i1 i2 = some o1 ∧ e = [(0, .slice p1 x.length k1), (3, .int .i64 i1), (4, .int .i64 i2)] ∧ SH w w' []) n ⟨_, _, hF, rfl, h⟩ ?_
 rintro m1 e1 w1 ⟨i1, i2, hF, rfl, h⟩
 rcases m1 with _ | m1
 ·rw [qbQ] at hF
  cases hF
 rw [qbQ] at hF
 refine zSSR (zp4 rfl (qb ?_))
 refine qp rfl hF ?_ ?_ <;> intro hF
 ·refine zKSBR (zp3 rfl ?_)
  obtain ⟨y2, hy2, hF⟩ := qd hF
  have he2 := qg hy2
  obtain ⟨b2, o_2, q2, cs3, hp2, hq2, -, hr2, hc3⟩ := s1.at hy2
  obtain rfl := hr2
  exact zxe hp2 hq2 he2 rfl (zc 0 (hc3.below h.below) rfl (zp2 rfl (zNER (zp3 rfl (qb (qy m1 [(0, _), (3, _), (4, _)] (Nat.lt_succ_self m1) ⟨rfl, rfl, rfl, trivial⟩ ⟨_, _, hF, rfl, h⟩))))))
 refine qF rfl ?_
 obtain rfl := qj hF; replace hF := hK1
 exact zSR (zp2 rfl (qb (qar qc h hF ⟨rfl, trivial⟩)))

def qfa (n : Nat) (t : qJ) (v0 : Bool) : Option Bool :=
 (qhc n t).bind fun r1 =>
 bif (!r1) then
  some true
 else
  bif v0 then
   (qfb n t.Values).bind fun r2 =>
   some (decide (r2 < 0))
  else
   some false

theorem qki {n : Nat} {w : World} {t : qJ} {v0 : Bool} {cs1 : List Value} (ha1 : GoT.R w (old w) t cs1) {p4 : Option Addr} (ha2 : GoT.R w (old w) (some v0) [.pointer p4]) {r : Bool} (hF : qfa n t v0 = some r) : RetV Tryz.prog 255 [GoT.v qJ cs1, .pointer p4] w r := by
 obtain ⟨p1, k1, p2, k2, p3, k3, rfl, s1, s2, s3⟩ := qbP ha1
 obtain ⟨b1, o_1, cs2, rfl, -, hr1, hc1⟩ := PtR.get ha2 rfl
 obtain rfl := hr1
 refine qf Tryz.func255 rfl (m := 16) rfl rfl (fun h => ?_)
 rw [qfa] at hF
 refine zSR (qP h rfl rfl ?_)
 intro w1 bb1 h
 refine zp1 rfl (zNSR (zl 0 0 h rfl ?_))
 obtain ⟨r1, hr2, hF⟩ := qd hF
 refine qm r1 h call256 (qlI (h.old ha1) hr2) rfl rfl rfl rfl ?_
 intro w2 h
 refine zp2 rfl ?_
 by_cases hc2 : (!r1) = true
 ·replace hF := bifT hc2 hF
  exact qC hc2 (t := 7) rfl (zn5 rfl (zn2 rfl (zp2 rfl (qb (qx qc h hF ⟨rfl, trivial⟩)))))
 replace hc2 := zb hc2
 replace hF := bifF hc2 hF
 refine qD hc2 (t := 7) rfl (qa rfl (zc 0 (hc1.below h.below) rfl (qa rfl (zp1 rfl ?_))))
 by_cases hc3 : v0 = true
 ·replace hF := bifT hc3 hF
  refine qC hc3 (t := 9) rfl (qa rfl (zp1 rfl (qa rfl (zl 0 2 h rfl (qa rfl ?_)))))
  obtain ⟨r2, hr3, hF⟩ := qd hF
  refine qN r2 h call257 (qkr ⟨_, _, rfl, (h.oldS s3)⟩ hr3) rfl rfl rfl rfl ?_
  intro w3 h
  exact qa rfl (zp1 rfl (qa rfl (zp3 rfl (qb (qx qc h hF ⟨rfl, trivial⟩)))))
 replace hc3 := zb hc3
 replace hF := bifF hc3 hF
 exact qD hc3 (t := 9) rfl (zn4 rfl (qa rfl (zp3 rfl (qb (qx qc h hF ⟨rfl, trivial⟩)))))

def qQ (s : (List qJ)) (f_0 : Bool) : Nat → Int → Option (Flow Int Int)
 | 0, _ => none
 | n + 1, i1 =>
  bif decide (i1 < (s.length : Int)) then
   (idx s i1).bind fun y1 =>
   (qfa n y1 f_0).bind fun r1 =>
   bif r1 then
    some (.ret i1)
   else
    qQ s f_0 n (W64 (i1 + 1))
  else
   some (.nxt i1)

def qau (n : Nat) (s : (List qJ)) (f_0 : Bool) : Option Int :=
 (qQ s f_0 n 0).bind fun o => match o with
 | .ret r => some r
 | .nxt _ =>
  some (-1)

theorem qeP {n : Nat} {w : World} {s : (List qJ)} {f_0 : Bool} {cs1 : List Value} (ha1 : GoT.R w (old w) s cs1) {p2 : Option Addr} (ha2 : GoT.R w (old w) (some f_0) [.pointer p2]) {r : Int} (hF : qau n s f_0 = some r) : RetV Tryz.prog 264 [GoT.v (List qJ) cs1, .func (.func 255) #[] #[.pointer p2]] w r := by
 obtain ⟨p1, k1, rfl, s1⟩ := ha1
 obtain ⟨b1, o_1, cs2, rfl, -, hr1, hc1⟩ := PtR.get ha2 rfl
 obtain rfl := hr1
 refine qf Tryz.func264 rfl (m := 19) rfl rfl (fun h => ?_)
 rw [qau] at hF
 refine zSR (zp1 rfl (zNSSR (zp3 rfl (qb ?_))))
 obtain ⟨o1, hF, hK1⟩ := qd hF
 refine qA (qW [(0, _), (1, _), (7, _), (8, _)] ⟨rfl, rfl, rfl, rfl, trivial⟩ ?_)
 refine qG (fun m e w' => ∃ (i1 : Int), qQ s f_0 m i1 = some o1 ∧ e = [(0, .slice p1 s.length k1), (1, .func (.func 255) #[] #[.pointer (some ⟨b1, o_1, none⟩)]), (7, .int .i64 (s.length : Int)), (8, .int .i64 i1)] ∧ SH w w' []) n ⟨_, hF, rfl, h⟩ ?_
 rintro m1 e1 w1 ⟨i1, hF, rfl, h⟩
 rcases m1 with _ | m1
 ·rw [qQ] at hF
  cases hF
 rw [qQ] at hF
 refine zSR (zp1 rfl (zNS ?_))
 refine qp rfl hF ?_ ?_ <;> intro hF
 ·refine zKSBSR (zp2 rfl (zNSR (zp2 rfl ?_)))
  refine zp1 rfl ?_
  obtain ⟨y1, hy1, hF⟩ := qd hF
  have he1 := qg hy1
  obtain ⟨b2, o_2, q1, cs3, hp1, hq1, -, hr2, hc3⟩ := s1.at hy1
  obtain ⟨p3, k2, p4, k3, p5, k4, rfl, s2, s3, s4⟩ := qbP hr2
  refine zxe hp1 hq1 he1 rfl (zc 0 (hc3.below h.below) rfl ?_)
  obtain ⟨r1, hr3, hF⟩ := qd hF
  refine qm r1 h call255 (qki (qhJ y1 (h.oldS s2) (h.oldS s3) (h.oldS s4)) (h.old ha2) hr3) rfl rfl rfl rfl ?_
  intro w2 h
  refine qb ?_
  refine qp rfl hF ?_ ?_ <;> intro hF
  ·refine zSR (zp2 rfl (qb ?_))
   obtain rfl := qj hF; replace hF := hK1
   exact qar qc h hF ⟨rfl, trivial⟩
  exact zKER (zp2 rfl (qb (qy m1 [(0, _), (1, _), (7, _), (8, _)] (Nat.lt_succ_self m1) ⟨rfl, rfl, rfl, rfl, trivial⟩ ⟨_, hF, rfl, h⟩)))
 refine qF rfl ?_
 obtain rfl := qj hF; replace hF := hK1
 exact zSR (zp1 rfl (qb (qar qc h hF ⟨rfl, trivial⟩)))

def qaG (n : Nat) (s : (List qJ)) (f_0 : Bool) : Option Bool :=
 (qau n s f_0).bind fun r1 =>
 some (decide (r1 ≥ 0))

theorem qeh {n : Nat} {w : World} {s : (List qJ)} {f_0 : Bool} {cs1 : List Value} (ha1 : GoT.R w (old w) s cs1) {p2 : Option Addr} (ha2 : GoT.R w (old w) (some f_0) [.pointer p2]) {r : Bool} (hF : qaG n s f_0 = some r) : RetV Tryz.prog 254 [GoT.v (List qJ) cs1, .func (.func 255) #[] #[.pointer p2]] w r := by
 obtain ⟨p1, k1, rfl, s1⟩ := ha1
 obtain ⟨b1, o_1, cs2, rfl, -, hr1, hc1⟩ := PtR.get ha2 rfl
 obtain rfl := hr1
 refine qf Tryz.func254 rfl (m := 9) rfl rfl (fun h => ?_)
 rw [qaG] at hF
 refine zSR (zp1 rfl (zNSR (zp2 rfl ?_)))
 obtain ⟨r1, hr2, hF⟩ := qd hF
 refine qN r1 h call264 (qeP ⟨_, _, rfl, (h.oldS s1)⟩ (h.old ha2) hr2) rfl rfl rfl rfl ?_
 intro w1 h
 exact zp2 rfl (qb (qx qc h hF ⟨rfl, trivial⟩))

def qek (n : Nat) (list : (List qJ)) (positive : Bool) : Option Bool :=
 bif ((list.length : Int) == 2) then
  (qaG n list positive).bind fun r1 =>
  some (!r1)
 else
  some false

theorem qhe {n : Nat} {w : World} {list : (List qJ)} {positive : Bool} {cs1 : List Value} (ha1 : GoT.R w (old w) list cs1) {r : Bool} (hF : qek n list positive = some r) : RetV Tryz.prog 244 [GoT.v (List qJ) cs1, .bool positive] w r := by
 obtain ⟨p1, k1, rfl, s1⟩ := ha1
 refine qf Tryz.func244 rfl (m := 14) rfl rfl (fun h => ?_)
 rw [qek] at hF
 refine zSR (qP h rfl rfl ?_)
 intro w1 bb1 h
 refine zp1 rfl (zNSR (zp4 rfl ?_))
 by_cases hc1 : ((list.length : Int) == 2) = true
 ·replace hF := bifT hc1 hF
  refine qC hc1 (t := 8) rfl (qa rfl (zp1 rfl (qa rfl (zp1 rfl (qa rfl ?_)))))
  obtain ⟨r1, hr1, hF⟩ := qd hF
  refine qm r1 h call254 (qeh ⟨_, _, rfl, (h.oldS s1)⟩ (qh8 (x := positive) 0 h rfl rfl) hr1) rfl rfl rfl rfl ?_
  intro w2 h
  exact qa rfl (zp3 rfl (qb (qx qc h hF ⟨rfl, trivial⟩)))
 replace hc1 := zb hc1
 replace hF := bifF hc1 hF
 exact qD hc1 (t := 8) rfl (zn4 rfl (zp2 rfl (qb (qx qc h hF ⟨rfl, trivial⟩))))

def qfR (_ : Nat) (p : qaC) : Option Bool :=
 some p.Clock

theorem qj0 {n : Nat} {w : World} {p : qaC} {cs1 : List Value} (ha1 : GoT.R w (old w) p cs1) {r : Bool} (hF : qfR n p = some r) : RetV Tryz.prog 259 [GoT.v qaC cs1] w r := by
 obtain rfl := qbx ha1
 refine qf Tryz.func259 rfl (m := 5) rfl rfl (fun h => ?_)
 rw [qfR] at hF
 refine zSR (qP h rfl rfl ?_)
 intro w1 bb1 h
 exact zp1 rfl (zNSR (zp1 rfl (zl 0 3 h rfl (zp1 rfl (qb (qx qc h hF ⟨rfl, trivial⟩))))))

def qR (s : (List qaC)) : Nat → Int → Option (Flow Int Int)
 | 0, _ => none
 | n + 1, i1 =>
  bif decide (i1 < (s.length : Int)) then
   (idx s i1).bind fun y1 =>
   (qfR n y1).bind fun r1 =>
   bif r1 then
    some (.ret i1)
   else
    qR s n (W64 (i1 + 1))
  else
   some (.nxt i1)

def qaZ (n : Nat) (s : (List qaC)) : Option Int :=
 (qR s n 0).bind fun o => match o with
 | .ret r => some r
 | .nxt _ =>
  some (-1)

theorem qe2 {n : Nat} {w : World} {s : (List qaC)} {cs1 : List Value} (ha1 : GoT.R w (old w) s cs1) {r : Int} (hF : qaZ n s = some r) : RetV Tryz.prog 258 [GoT.v (List qaC) cs1, .func (.func 259) #[] #[]] w r := by
 obtain ⟨p1, k1, rfl, s1⟩ := ha1
 refine qf Tryz.func258 rfl (m := 19) rfl rfl (fun h => ?_)
 rw [qaZ] at hF
 refine zSR (zp1 rfl (zNSSR (zp3 rfl (qb ?_))))
 obtain ⟨o1, hF, hK1⟩ := qd hF
 refine qA (qW [(0, _), (1, _), (7, _), (8, _)] ⟨rfl, rfl, rfl, rfl, trivial⟩ ?_)
 refine qG (fun m e w' => ∃ (i1 : Int), qR s m i1 = some o1 ∧ e = [(0, .slice p1 s.length k1), (1, .func (.func 259) #[] #[]), (7, .int .i64 (s.length : Int)), (8, .int .i64 i1)] ∧ SH w w' []) n ⟨_, hF, rfl, h⟩ ?_
 rintro m1 e1 w1 ⟨i1, hF, rfl, h⟩
 rcases m1 with _ | m1
 ·rw [qR] at hF
  cases hF
 rw [qR] at hF
 refine zSR (zp1 rfl (zNS ?_))
 refine qp rfl hF ?_ ?_ <;> intro hF
 ·refine zKSBSR (zp2 rfl (zNSR (zp2 rfl ?_)))
  refine zp1 rfl ?_
  obtain ⟨y1, hy1, hF⟩ := qd hF
  have he1 := qg hy1
  obtain ⟨b1, o_1, q1, cs2, hp1, hq1, -, hr1, hc2⟩ := s1.at hy1
  obtain rfl := qbx hr1
  refine zxe hp1 hq1 he1 rfl (zc 0 (hc2.below h.below) rfl ?_)
  obtain ⟨r1, hr2, hF⟩ := qd hF
  refine qm r1 h call259 (qj0 (qhX y1) hr2) rfl rfl rfl rfl ?_
  intro w2 h
  refine qb ?_
  refine qp rfl hF ?_ ?_ <;> intro hF
  ·refine zSR (zp2 rfl (qb ?_))
   obtain rfl := qj hF; replace hF := hK1
   exact qar qc h hF ⟨rfl, trivial⟩
  exact zKER (zp2 rfl (qb (qy m1 [(0, _), (1, _), (7, _), (8, _)] (Nat.lt_succ_self m1) ⟨rfl, rfl, rfl, rfl, trivial⟩ ⟨_, hF, rfl, h⟩)))
 refine qF rfl ?_
 obtain rfl := qj hF; replace hF := hK1
 exact zSR (zp1 rfl (qb (qar qc h hF ⟨rfl, trivial⟩)))

def qfF (n : Nat) (c : qE) : Option Int :=
 (qaZ n c.Pins).bind fun r1 =>
 some r1

theorem qkG {n : Nat} {w : World} {c : qE} {cs1 : List Value} (ha1 : GoT.R w (old w) c cs1) {r : Int} (hF : qfF n c = some r) : RetV Tryz.prog 245 [GoT.v qE cs1] w r := by
 obtain ⟨p1, k1, p2, k2, p3, k3, rfl, s1, s2, s3⟩ := qaa ha1
 refine qf Tryz.func245 rfl (m := 6) rfl rfl (fun h => ?_)
 rw [qfF] at hF
 refine zSR (qP h rfl rfl ?_)
 intro w1 bb1 h
 refine zp1 rfl (zNSR (zp1 rfl (zl 0 2 h rfl ?_)))
 obtain ⟨r1, hr1, hF⟩ := qd hF
 refine qN r1 h call258 (qe2 ⟨_, _, rfl, (h.oldS s1)⟩ hr1) rfl rfl rfl rfl ?_
 intro w2 h
 exact zp1 rfl (qb (qar qc h hF ⟨rfl, trivial⟩))

def qeX (n : Nat) (c : qE) (pin : Int) : Option Bool :=
 (qcj n c).bind fun r1 =>
 (qaY n pin 0 (W64 (r1 - 1))).bind fun r2 =>
 some r2

theorem qh3 {n : Nat} {w : World} {c : qE} {pin : Int} {cs1 : List Value} (ha1 : GoT.R w (old w) c cs1) {r : Bool} (hF : qeX n c pin = some r) : RetV Tryz.prog 246 [GoT.v qE cs1, .int .i64 pin] w r := by
 obtain ⟨p1, k1, p2, k2, p3, k3, rfl, s1, s2, s3⟩ := qaa ha1
 refine qf Tryz.func246 rfl (m := 10) rfl rfl (fun h => ?_)
 rw [qeX] at hF
 refine zSR (qP h rfl rfl ?_)
 intro w1 bb1 h
 refine zp1 rfl (zNSR (zp1 rfl (zl 0 0 h rfl ?_)))
 obtain ⟨r1, hr1, hF⟩ := qd hF
 refine qN r1 h call163 (qe5 (h.old ha1) hr1) rfl rfl rfl rfl ?_
 intro w2 h
 refine zp1 rfl ?_
 obtain ⟨r2, hr2, hF⟩ := qd hF
 refine qm r2 h call86 (qaF hr2) rfl rfl rfl rfl ?_
 intro w3 h
 exact zp1 rfl (qb (qx qc h hF ⟨rfl, trivial⟩))

def qfE (n : Nat) (a_0 : qE) (a_1 : qah) : Option Bool :=
 (qhg n a_1.Kind).bind fun r1 =>
 bif r1 then
  (
   bif (a_1.Sense == 0) then
    bif ((a_1.Slew.length : Int) == 0) then
     (qek n a_1.Delay false).bind fun r2 =>
     bif r2 then
      (qfF n a_0).bind fun r3 =>
      bif (a_1.From == r3) then
       bif decide (a_1.From ≥ 0) then
        (qeX n a_0 a_1.To).bind fun r4 =>
        bif r4 then
         some (a_1.To != a_1.From)
        else
         some false
       else
        some false
      else
       some false
     else
      some false
    else
     some false
   else
    some false).bind fun b1 =>
  some b1
 else
  (
   (qek n a_1.Delay true).bind fun r6 =>
   bif (!r6) then
    some true
   else
    (qek n a_1.Slew true).bind fun r7 =>
    bif (!r7) then
     some true
    else
     (qcj n a_0).bind fun r8 =>
     bif (a_1.To != r8) then
      some true
     else
      (qeX n a_0 a_1.From).bind fun r9 =>
      some (!r9)).bind fun b2 =>
  bif b2 then
   some false
  else
   bif (a_1.Kind == 1) then
    (idx a_0.Pins a_1.From).bind fun y1 =>
    bif (!y1.Clock) then
     (qaY n a_1.Sense 1 3).bind fun r5 =>
     some r5
    else
     some false
   else
    (
     bif (a_1.Kind == 2) then
      some (a_1.Kind == 2)
     else
      some (a_1.Kind == 3)).bind fun b4 =>
    bif b4 then
     (idx a_0.Pins a_1.From).bind fun y2 =>
     bif y2.Clock then
      some (a_1.Sense == 0)
     else
      some false
    else
     some false

theorem qkB {n : Nat} {w : World} {a_0 : qE} {a_1 : qah} {cs1 : List Value} (ha1 : GoT.R w (old w) a_0 cs1) {cs2 : List Value} (ha2 : GoT.R w (old w) a_1 cs2) {r : Bool} (hF : qfE n a_0 a_1 = some r) : RetV Tryz.prog 230 [GoT.v qE cs1, GoT.v qah cs2] w r := by
 obtain ⟨p1, k1, p2, k2, p3, k3, rfl, s1, s2, s3⟩ := qaa ha1
 obtain ⟨p4, k4, p5, k5, rfl, s4, s5⟩ := qaD ha2
 refine qf Tryz.func230 rfl (m := 103) rfl rfl (fun h => ?_)
 rw [qfE] at hF
 refine zSR (qP h rfl rfl ?_)
 intro w1 bb1 h
 refine qP h rfl rfl ?_
 intro w2 bb2 h
 refine zp1 rfl (zNSSR (zp1 rfl (zl 0 0 h rfl ?_)))
 obtain ⟨r1, hr1, hF⟩ := qd hF
 refine qm r1 h call243 (qlP hr1) rfl rfl rfl rfl ?_
 intro w3 h
 refine qb ?_
 refine qp rfl hF ?_ ?_ <;> intro hF
 ·refine qbl ?_
  obtain ⟨KF1, hKF1, o1, hF, hK1⟩ := bindE hF
  refine qdR (fun e w' => ∃ (b1 : Bool), KF1 b1 = some r ∧ e = [(4, .bool b1)] ∧ SH w w' []) ?_ ?_
  ·refine qb3 rfl (by kernel_rfl) ?_
   refine zd1 rfl ?_
   refine zdl 0 3 h rfl ?_
   refine zd2 rfl ?_
   by_cases hc2 : (a_1.Sense == 0) = true
   ·replace hF := bifT hc2 hF
    refine qch hc2 (t := 11) rfl (qh rfl (zd1 rfl (qh rfl ?_)))
    refine zdl 0 5 h rfl ?_
    refine qh rfl (zd1 rfl (qh rfl (zd3 rfl ?_)))
    by_cases hc3 : ((a_1.Slew.length : Int) == 0) = true
    ·replace hF := bifT hc3 hF
     refine qch hc3 (t := 17) rfl (qh rfl (zd1 rfl (qh rfl ?_)))
     refine zdl 0 4 h rfl ?_
     refine qh rfl ?_
     obtain ⟨r2, hr2, hF⟩ := qd hF
     refine qb7 r2 (vsB _) call244 (fun _ hb => qhe ⟨_, _, rfl, ((h.ext hb).oldS s4)⟩ hr2) rfl rfl rfl rfl ?_
     refine zd2 rfl ?_
     by_cases hc4 : r2 = true
     ·replace hF := bifT hc4 hF
      refine qch hc4 (t := 22) rfl (qh rfl (zd1 rfl (qh rfl ?_)))
      refine zdl 0 1 h rfl ?_
      refine qh rfl ?_
      refine zdl 1 0 h rfl ?_
      refine qh rfl ?_
      obtain ⟨r3, hr3, hF⟩ := qd hF
      refine qb7 r3 (vsI _) call245 (fun _ hb => qkG ((h.ext hb).old ha1) hr3) rfl rfl rfl rfl ?_
      refine qh rfl (zd3 rfl ?_)
      by_cases hc5 : (a_1.From == r3) = true
      ·replace hF := bifT hc5 hF
       refine qch hc5 (t := 29) rfl (qh rfl (zd1 rfl (qh rfl ?_)))
       refine zdl 0 1 h rfl ?_
       refine qh rfl (zd3 rfl ?_)
       by_cases hc6 : (decide (a_1.From ≥ 0)) = true
       ·replace hF := bifT hc6 hF
        refine qch hc6 (t := 34) rfl (qh rfl ?_)
        refine zdl 1 0 h rfl ?_
        refine qh rfl (zd1 rfl (qh rfl ?_))
        refine zdl 0 2 h rfl ?_
        refine qh rfl ?_
        obtain ⟨r4, hr4, hF⟩ := qd hF
        refine qb7 r4 (vsB _) call246 (fun _ hb => qh3 ((h.ext hb).old ha1) hr4) rfl rfl rfl rfl ?_
        refine zd2 rfl ?_
        by_cases hc7 : r4 = true
        ·replace hF := bifT hc7 hF
         refine qch hc7 (t := 40) rfl (qh rfl (zd1 rfl (qh rfl ?_)))
         refine zdl 0 2 h rfl ?_
         refine qh rfl (zd1 rfl (qh rfl ?_))
         refine zdl 0 1 h rfl ?_
         refine qh rfl (zd3 rfl ?_)
         refine qaR (fun w4 hb => ?_)
         replace h := h.ext hb
         clear hb
         replace h := h.pick [] rfl
         obtain rfl := qj hF
         exact qu [(4, _)] ⟨rfl, trivial⟩ ⟨_, hK1, rfl, h⟩
        replace hc7 := zb hc7
        replace hF := bifF hc7 hF
        refine qci hc7 (t := 40) rfl (qi rfl rfl rfl (qi rfl rfl rfl (qi rfl rfl rfl (qi rfl rfl rfl (qi rfl rfl rfl (zd2 rfl ?_))))))
        refine qaR (fun w5 hb => ?_)
        replace h := h.ext hb
        clear hb
        replace h := h.pick [] rfl
        obtain rfl := qj hF
        exact qu [(4, _)] ⟨rfl, trivial⟩ ⟨_, hK1, rfl, h⟩
       replace hc6 := zb hc6
       replace hF := bifF hc6 hF
       refine qci hc6 (t := 34) rfl (qi rfl rfl rfl (qi rfl rfl rfl (qi rfl rfl rfl (qi rfl rfl rfl (zd2 rfl (qi rfl rfl rfl (qi rfl rfl rfl (qi rfl rfl rfl (qi rfl rfl rfl (qi rfl rfl rfl ?_))))))))))
       refine zd2 rfl ?_
       refine qaR (fun w6 hb => ?_)
       replace h := h.ext hb
       clear hb
       replace h := h.pick [] rfl
       obtain rfl := qj hF
       exact qu [(4, _)] ⟨rfl, trivial⟩ ⟨_, hK1, rfl, h⟩
      replace hc5 := zb hc5
      replace hF := bifF hc5 hF
      refine qci hc5 (t := 29) rfl (qi rfl rfl rfl (qi rfl rfl rfl (qi rfl rfl rfl (zd2 rfl (qi rfl rfl rfl (qi rfl rfl rfl (qi rfl rfl rfl (qi rfl rfl rfl (zd2 rfl ?_)))))))))
      refine qi rfl rfl rfl (qi rfl rfl rfl (qi rfl rfl rfl (qi rfl rfl rfl (qi rfl rfl rfl (zd2 rfl ?_)))))
      refine qaR (fun w7 hb => ?_)
      replace h := h.ext hb
      clear hb
      replace h := h.pick [] rfl
      obtain rfl := qj hF
      exact qu [(4, _)] ⟨rfl, trivial⟩ ⟨_, hK1, rfl, h⟩
     replace hc4 := zb hc4
     replace hF := bifF hc4 hF
     refine qci hc4 (t := 22) rfl (qi rfl rfl rfl (qi rfl rfl rfl (qi rfl rfl rfl (qi rfl rfl rfl (qi rfl rfl rfl (zd2 rfl (qi rfl rfl rfl (qi rfl rfl rfl (qi rfl rfl rfl (zd1 rfl ?_))))))))))
     refine zd1 rfl (qi rfl rfl rfl (qi rfl rfl rfl (qi rfl rfl rfl (qi rfl rfl rfl (zd2 rfl (qi rfl rfl rfl (qi rfl rfl rfl (qi rfl rfl rfl (qi rfl rfl rfl (qi rfl rfl rfl ?_))))))))))
     refine zd2 rfl ?_
     refine qaR (fun w8 hb => ?_)
     replace h := h.ext hb
     clear hb
     replace h := h.pick [] rfl
     obtain rfl := qj hF
     exact qu [(4, _)] ⟨rfl, trivial⟩ ⟨_, hK1, rfl, h⟩
    replace hc3 := zb hc3
    replace hF := bifF hc3 hF
    refine qci hc3 (t := 17) rfl (qi rfl rfl rfl (qi rfl rfl rfl (qi rfl rfl rfl (zd2 rfl (qi rfl rfl rfl (qi rfl rfl rfl (qi rfl rfl rfl (qi rfl rfl rfl (qi rfl rfl rfl (zd1 rfl ?_))))))))))
    refine zd1 rfl (qi rfl rfl rfl (qi rfl rfl rfl (qi rfl rfl rfl (zd2 rfl (qi rfl rfl rfl (qi rfl rfl rfl (qi rfl rfl rfl (qi rfl rfl rfl (zd2 rfl ?_)))))))))
    refine qi rfl rfl rfl (qi rfl rfl rfl (qi rfl rfl rfl (qi rfl rfl rfl (qi rfl rfl rfl (zd2 rfl ?_)))))
    refine qaR (fun w9 hb => ?_)
    replace h := h.ext hb
    clear hb
    replace h := h.pick [] rfl
    obtain rfl := qj hF
    exact qu [(4, _)] ⟨rfl, trivial⟩ ⟨_, hK1, rfl, h⟩
   replace hc2 := zb hc2
   replace hF := bifF hc2 hF
   refine qci hc2 (t := 11) rfl (qi rfl rfl rfl (qi rfl rfl rfl (qi rfl rfl rfl (qi rfl rfl rfl (zd2 rfl (qi rfl rfl rfl (qi rfl rfl rfl (qi rfl rfl rfl (zd2 rfl ?_)))))))))
   refine qi rfl rfl rfl (qi rfl rfl rfl (qi rfl rfl rfl (qi rfl rfl rfl (qi rfl rfl rfl (zd2 rfl (qi rfl rfl rfl (qi rfl rfl rfl (qi rfl rfl rfl (zd2 rfl ?_)))))))))
   refine qi rfl rfl rfl (qi rfl rfl rfl (qi rfl rfl rfl (qi rfl rfl rfl (zd2 rfl (qi rfl rfl rfl (qi rfl rfl rfl (qi rfl rfl rfl (qi rfl rfl rfl (qi rfl rfl rfl (zd1 rfl ?_))))))))))
   refine zd1 rfl ?_
   refine qaR (fun w10 hb => ?_)
   replace h := h.ext hb
   clear hb
   replace h := h.pick [] rfl
   obtain rfl := qj hF
   exact qu [(4, _)] ⟨rfl, trivial⟩ ⟨_, hK1, rfl, h⟩
  rintro e1 w11 ⟨b1, hF, rfl, h⟩
  subst hKF1
  exact qx qc h hF ⟨rfl, trivial⟩
 refine zKSS ?_
 obtain ⟨KF3, hKF3, o3, hF, hK3⟩ := bindE hF
 refine qdR (fun e w' => ∃ (b2 : Bool), KF3 b2 = some r ∧ e = [(2, .pointer (some ⟨bb1, 0, none⟩)), (3, .pointer (some ⟨bb2, 0, none⟩)), (70, .bool b2)] ∧ SH w w' [Ch.box bb2 [.int .i64 a_1.Kind, .int .i64 a_1.From, .int .i64 a_1.To, .int .i64 a_1.Sense, .slice p4 a_1.Delay.length k4, .slice p5 a_1.Slew.length k5] 211, Ch.box bb1 [.string a_0.Name, .int .i64 a_0.Kind, .slice p1 a_0.Pins.length k1, .slice p2 a_0.Arcs.length k2, .slice p3 a_0.Truth.length k3, .int .i64 a_0.Leak, .int .i64 a_0.Energy] 183]) ?_ ?_
 ·refine qb3 rfl (by kernel_rfl) ?_
  refine zd1 rfl ?_
  refine zdl 0 4 h rfl ?_
  obtain ⟨r6, hr8, hF⟩ := qd hF
  refine qb7 r6 (vsB _) call244 (fun _ hb => qhe ⟨_, _, rfl, ((h.ext hb).oldS s4)⟩ hr8) rfl rfl rfl rfl ?_
  refine zd2 rfl ?_
  by_cases hc16 : (!r6) = true
  ·replace hF := bifT hc16 hF
   refine qch hc16 (t := 51) rfl (qi rfl rfl rfl (qi rfl rfl rfl (qi rfl rfl rfl (qi rfl rfl rfl (zd2 rfl (qi rfl rfl rfl (qi rfl rfl rfl (qi rfl rfl rfl (qi rfl rfl rfl (qi rfl rfl rfl ?_))))))))))
   refine zd2 rfl (qi rfl rfl rfl (qi rfl rfl rfl (qi rfl rfl rfl (qi rfl rfl rfl (qi rfl rfl rfl (zd1 rfl ?_))))))
   refine qaR (fun w14 hb => ?_)
   replace h := h.ext hb
   clear hb
   obtain rfl := qj hF
   exact qu [(2, _), (3, _), (70, _)] ⟨rfl, rfl, rfl, trivial⟩ ⟨_, hK3, rfl, h⟩
  replace hc16 := zb hc16
  replace hF := bifF hc16 hF
  refine qci hc16 (t := 51) rfl (qh rfl (zd1 rfl (qh rfl ?_)))
  refine zdl 0 5 h rfl ?_
  refine qh rfl ?_
  obtain ⟨r7, hr9, hF⟩ := qd hF
  refine qb7 r7 (vsB _) call244 (fun _ hb => qhe ⟨_, _, rfl, ((h.ext hb).oldS s5)⟩ hr9) rfl rfl rfl rfl ?_
  refine qh rfl (zd3 rfl ?_)
  by_cases hc17 : (!r7) = true
  ·replace hF := bifT hc17 hF
   refine qch hc17 (t := 57) rfl (qi rfl rfl rfl (qi rfl rfl rfl (qi rfl rfl rfl (qi rfl rfl rfl (qi rfl rfl rfl (zd2 rfl (qi rfl rfl rfl (qi rfl rfl rfl (qi rfl rfl rfl (qi rfl rfl rfl ?_))))))))))
   refine qi rfl rfl rfl (zd1 rfl ?_)
   refine qaR (fun w15 hb => ?_)
   replace h := h.ext hb
   clear hb
   obtain rfl := qj hF
   exact qu [(2, _), (3, _), (70, _)] ⟨rfl, rfl, rfl, trivial⟩ ⟨_, hK3, rfl, h⟩
  replace hc17 := zb hc17
  replace hF := bifF hc17 hF
  refine qci hc17 (t := 57) rfl (qh rfl (zd1 rfl (qh rfl ?_)))
  refine zdl 0 2 h rfl ?_
  refine qh rfl ?_
  refine zdl 1 0 h rfl ?_
  refine qh rfl ?_
  obtain ⟨r8, hr10, hF⟩ := qd hF
  refine qb7 r8 (vsI _) call163 (fun _ hb => qe5 ((h.ext hb).old ha1) hr10) rfl rfl rfl rfl ?_
  refine qh rfl (zd3 rfl ?_)
  by_cases hc18 : (a_1.To != r8) = true
  ·replace hF := bifT hc18 hF
   refine qch hc18 (t := 64) rfl (qi rfl rfl rfl (qi rfl rfl rfl (qi rfl rfl rfl (qi rfl rfl rfl (qi rfl rfl rfl (zd1 rfl ?_))))))
   refine qaR (fun w16 hb => ?_)
   replace h := h.ext hb
   clear hb
   obtain rfl := qj hF
   exact qu [(2, _), (3, _), (70, _)] ⟨rfl, rfl, rfl, trivial⟩ ⟨_, hK3, rfl, h⟩
  replace hc18 := zb hc18
  replace hF := bifF hc18 hF
  refine qci hc18 (t := 64) rfl (qh rfl ?_)
  refine zdl 1 0 h rfl ?_
  refine qh rfl (zd1 rfl (qh rfl ?_))
  refine zdl 0 1 h rfl ?_
  refine qh rfl ?_
  obtain ⟨r9, hr11, hF⟩ := qd hF
  refine qb7 r9 (vsB _) call246 (fun _ hb => qh3 ((h.ext hb).old ha1) hr11) rfl rfl rfl rfl ?_
  refine qh rfl (zd2 rfl ?_)
  refine qaR (fun w17 hb => ?_)
  replace h := h.ext hb
  clear hb
  obtain rfl := qj hF
  exact qu [(2, _), (3, _), (70, _)] ⟨rfl, rfl, rfl, trivial⟩ ⟨_, hK3, rfl, h⟩
 rintro e3 w18 ⟨b2, hF, rfl, h⟩
 subst hKF3
 refine qp rfl hF ?_ ?_ <;> intro hF
 ·exact zSR (zp1 rfl (qb (qx qc h hF ⟨rfl, trivial⟩)))
 refine zKSSR (zp1 rfl (zl 0 0 h rfl (qb (zBSR (zp2 rfl ?_)))))
 refine qb ?_
 refine qp rfl hF ?_ ?_ <;> intro hF
 ·refine zSR (zp1 rfl (zl 1 2 h rfl (zp1 rfl (zl 0 1 h rfl ?_))))
  obtain ⟨y1, hy1, hF⟩ := qd hF
  have he1 := qg hy1
  obtain ⟨b3, o_1, q1, cs3, hp1, hq1, -, hr5, hc10⟩ := s1.at hy1
  obtain rfl := qbx hr5
  refine zxe hp1 hq1 he1 rfl (zp1 rfl (zc 3 (hc10.below h.below) rfl (zp2 rfl ?_)))
  by_cases hc11 : (!y1.Clock) = true
  ·replace hF := bifT hc11 hF
   refine qC hc11 (t := 83) rfl (qa rfl (zp1 rfl (qa rfl (zl 0 3 h rfl (qa rfl ?_)))))
   obtain ⟨r5, hr6, hF⟩ := qd hF
   refine qm r5 h call86 (qaF hr6) rfl rfl rfl rfl ?_
   intro w12 h
   exact zp2 rfl (qb (qx qc h hF ⟨rfl, trivial⟩))
  replace hc11 := zb hc11
  replace hF := bifF hc11 hF
  exact qD hc11 (t := 83) rfl (zn3 rfl (zp2 rfl (qb (qx qc h hF ⟨rfl, trivial⟩))))
 refine zSSR (zp2 rfl (qb ?_))
 obtain ⟨KF2, hKF2, o2, hF, hK2⟩ := bindE hF
 refine qdR (fun e w' => ∃ (b4 : Bool), KF2 b4 = some r ∧ e = [(2, .pointer (some ⟨bb1, 0, none⟩)), (3, .pointer (some ⟨bb2, 0, none⟩)), (88, .bool b4)] ∧ SH w w' [Ch.box bb2 [.int .i64 a_1.Kind, .int .i64 a_1.From, .int .i64 a_1.To, .int .i64 a_1.Sense, .slice p4 a_1.Delay.length k4, .slice p5 a_1.Slew.length k5] 211, Ch.box bb1 [.string a_0.Name, .int .i64 a_0.Kind, .slice p1 a_0.Pins.length k1, .slice p2 a_0.Arcs.length k2, .slice p3 a_0.Truth.length k3, .int .i64 a_0.Leak, .int .i64 a_0.Energy] 183]) ?_ ?_
 ·refine qp rfl hF ?_ ?_ <;> intro hF
  ·refine qd1 ?_
   obtain rfl := qj hF
   exact qu [(2, _), (3, _), (88, _)] ⟨rfl, rfl, rfl, trivial⟩ ⟨_, hK2, rfl, h⟩
  refine qB (zp2 rfl (qb ?_))
  obtain rfl := qj hF
  exact qu [(2, _), (3, _), (88, _)] ⟨rfl, rfl, rfl, trivial⟩ ⟨_, hK2, rfl, h⟩
 rintro e2 w13 ⟨b4, hF, rfl, h⟩
 subst hKF2
 refine qp rfl hF ?_ ?_ <;> intro hF
 ·refine zSR (zp1 rfl (zl 1 2 h rfl (zp1 rfl (zl 0 1 h rfl ?_))))
  obtain ⟨y2, hy2, hF⟩ := qd hF
  have he2 := qg hy2
  obtain ⟨b5, o_2, q2, cs4, hp2, hq2, -, hr7, hc13⟩ := s1.at hy2
  obtain rfl := qbx hr7
  refine zxe hp2 hq2 he2 rfl (zp1 rfl (zc 3 (hc13.below h.below) rfl (zp1 rfl ?_)))
  by_cases hc14 : y2.Clock = true
  ·replace hF := bifT hc14 hF
   exact qC hc14 (t := 98) rfl (qa rfl (zp1 rfl (qa rfl (zl 0 3 h rfl (qa rfl (zp3 rfl (qb (qx qc h hF ⟨rfl, trivial⟩))))))))
  replace hc14 := zb hc14
  replace hF := bifF hc14 hF
  exact qD hc14 (t := 98) rfl (zn3 rfl (zp2 rfl (qb (qx qc h hF ⟨rfl, trivial⟩))))
 exact zKE (zSR (zp1 rfl (qb (qx qc h hF ⟨rfl, trivial⟩))))

def qd5 (_ : Nat) (a_o : qah) (v0 : qah) : Option Bool :=
 bif (a_o.Kind == v0.Kind) then
  bif (a_o.From == v0.From) then
   some (a_o.To == v0.To)
  else
   some false
 else
  some false

theorem qjy {n : Nat} {w : World} {a_o : qah} {v0 : qah} {cs1 : List Value} (ha1 : GoT.R w (old w) a_o cs1) {p3 : Option Addr} (ha2 : GoT.R w (old w) (some v0) [.pointer p3]) {r : Bool} (hF : qd5 n a_o v0 = some r) : RetV Tryz.prog 231 [GoT.v qah cs1, .pointer p3] w r := by
 obtain ⟨p1, k1, p2, k2, rfl, s1, s2⟩ := qaD ha1
 obtain ⟨b1, o_1, cs2, rfl, -, hr1, hc1⟩ := PtR.get ha2 rfl
 obtain ⟨p4, k3, p5, k4, rfl, s3, s4⟩ := qaD hr1
 refine qf Tryz.func231 rfl (m := 23) rfl rfl (fun h => ?_)
 rw [qd5] at hF
 refine zSR (qP h rfl rfl ?_)
 intro w1 bb1 h
 refine zp1 rfl (zNSR (zp1 rfl (zl 0 0 h rfl (zp1 rfl (zc 0 (hc1.below h.below) rfl (zp2 rfl ?_))))))
 by_cases hc2 : (a_o.Kind == v0.Kind) = true
 ·replace hF := bifT hc2 hF
  refine qC hc2 (t := 9) rfl (qa rfl (zp1 rfl (qa rfl (zl 0 1 h rfl (qa rfl (zp1 rfl (qa rfl (zc 1 (hc1.below h.below) rfl (qa rfl (zp2 rfl ?_))))))))))
  refine zp1 rfl ?_
  by_cases hc3 : (a_o.From == v0.From) = true
  ·replace hF := bifT hc3 hF
   refine qC hc3 (t := 16) rfl (qa rfl (zp1 rfl (qa rfl (zl 0 2 h rfl (qa rfl (zp1 rfl (qa rfl (zc 2 (hc1.below h.below) rfl (qa rfl (zp2 rfl ?_))))))))))
   exact zp1 rfl (qb (qx qc h hF ⟨rfl, trivial⟩))
  replace hc3 := zb hc3
  replace hF := bifF hc3 hF
  exact qD hc3 (t := 16) rfl (zn5 rfl (zp2 rfl (qb (qx qc h hF ⟨rfl, trivial⟩))))
 replace hc2 := zb hc2
 replace hF := bifF hc2 hF
 refine qD hc2 (t := 9) rfl (zn5 rfl (zp2 rfl (zn4 rfl ?_)))
 exact zn1 rfl (zp2 rfl (qb (qx qc h hF ⟨rfl, trivial⟩)))

def qO (s : (List qah)) (f_0 : qah) : Nat → Int → Option (Flow Int Int)
 | 0, _ => none
 | n + 1, i1 =>
  bif decide (i1 < (s.length : Int)) then
   (idx s i1).bind fun y1 =>
   (qd5 n y1 f_0).bind fun r1 =>
   bif r1 then
    some (.ret i1)
   else
    qO s f_0 n (W64 (i1 + 1))
  else
   some (.nxt i1)

def qaQ (n : Nat) (s : (List qah)) (f_0 : qah) : Option Int :=
 (qO s f_0 n 0).bind fun o => match o with
 | .ret r => some r
 | .nxt _ =>
  some (-1)

theorem qeB {n : Nat} {w : World} {s : (List qah)} {f_0 : qah} {cs1 : List Value} (ha1 : GoT.R w (old w) s cs1) {p2 : Option Addr} (ha2 : GoT.R w (old w) (some f_0) [.pointer p2]) {r : Int} (hF : qaQ n s f_0 = some r) : RetV Tryz.prog 191 [GoT.v (List qah) cs1, .func (.func 231) #[] #[.pointer p2]] w r := by
 obtain ⟨p1, k1, rfl, s1⟩ := ha1
 obtain ⟨b1, o_1, cs2, rfl, -, hr1, hc1⟩ := PtR.get ha2 rfl
 obtain ⟨p3, k2, p4, k3, rfl, s2, s3⟩ := qaD hr1
 refine qf Tryz.func191 rfl (m := 19) rfl rfl (fun h => ?_)
 rw [qaQ] at hF
 refine zSR (zp1 rfl (zNSSR (zp3 rfl (qb ?_))))
 obtain ⟨o1, hF, hK1⟩ := qd hF
 refine qA (qW [(0, _), (1, _), (7, _), (8, _)] ⟨rfl, rfl, rfl, rfl, trivial⟩ ?_)
 refine qG (fun m e w' => ∃ (i1 : Int), qO s f_0 m i1 = some o1 ∧ e = [(0, .slice p1 s.length k1), (1, .func (.func 231) #[] #[.pointer (some ⟨b1, o_1, none⟩)]), (7, .int .i64 (s.length : Int)), (8, .int .i64 i1)] ∧ SH w w' []) n ⟨_, hF, rfl, h⟩ ?_
 rintro m1 e1 w1 ⟨i1, hF, rfl, h⟩
 rcases m1 with _ | m1
 ·rw [qO] at hF
  cases hF
 rw [qO] at hF
 refine zSR (zp1 rfl (zNS ?_))
 refine qp rfl hF ?_ ?_ <;> intro hF
 ·refine zKSBSR (zp2 rfl (zNSR (zp2 rfl ?_)))
  refine zp1 rfl ?_
  obtain ⟨y1, hy1, hF⟩ := qd hF
  have he1 := qg hy1
  obtain ⟨b2, o_2, q1, cs3, hp1, hq1, -, hr2, hc3⟩ := s1.at hy1
  obtain ⟨p5, k4, p6, k5, rfl, s4, s5⟩ := qaD hr2
  refine zxe hp1 hq1 he1 rfl (zc 0 (hc3.below h.below) rfl ?_)
  obtain ⟨r1, hr3, hF⟩ := qd hF
  refine qm r1 h call231 (qjy (qf5 y1 (h.oldS s4) (h.oldS s5)) (h.old ha2) hr3) rfl rfl rfl rfl ?_
  intro w2 h
  refine qb ?_
  refine qp rfl hF ?_ ?_ <;> intro hF
  ·refine zSR (zp2 rfl (qb ?_))
   obtain rfl := qj hF; replace hF := hK1
   exact qar qc h hF ⟨rfl, trivial⟩
  exact zKER (zp2 rfl (qb (qy m1 [(0, _), (1, _), (7, _), (8, _)] (Nat.lt_succ_self m1) ⟨rfl, rfl, rfl, rfl, trivial⟩ ⟨_, hF, rfl, h⟩)))
 refine qF rfl ?_
 obtain rfl := qj hF; replace hF := hK1
 exact zSR (zp1 rfl (qb (qar qc h hF ⟨rfl, trivial⟩)))

def qak (n : Nat) (s : (List qah)) (f_0 : qah) : Option Bool :=
 (qaQ n s f_0).bind fun r1 =>
 some (decide (r1 ≥ 0))

theorem qd9 {n : Nat} {w : World} {s : (List qah)} {f_0 : qah} {cs1 : List Value} (ha1 : GoT.R w (old w) s cs1) {p2 : Option Addr} (ha2 : GoT.R w (old w) (some f_0) [.pointer p2]) {r : Bool} (hF : qak n s f_0 = some r) : RetV Tryz.prog 160 [GoT.v (List qah) cs1, .func (.func 231) #[] #[.pointer p2]] w r := by
 obtain ⟨p1, k1, rfl, s1⟩ := ha1
 obtain ⟨b1, o_1, cs2, rfl, -, hr1, hc1⟩ := PtR.get ha2 rfl
 obtain ⟨p3, k2, p4, k3, rfl, s2, s3⟩ := qaD hr1
 refine qf Tryz.func160 rfl (m := 9) rfl rfl (fun h => ?_)
 rw [qak] at hF
 refine zSR (zp1 rfl (zNSR (zp2 rfl ?_)))
 obtain ⟨r1, hr2, hF⟩ := qd hF
 refine qN r1 h call191 (qeB ⟨_, _, rfl, (h.oldS s1)⟩ (h.old ha2) hr2) rfl rfl rfl rfl ?_
 intro w1 h
 exact zp2 rfl (qb (qx qc h hF ⟨rfl, trivial⟩))

def qbF (c : qE) : Nat → Int → Option (Flow Bool Int)
 | 0, _ => none
 | n + 1, i1 =>
  bif decide (i1 < (c.Arcs.length : Int)) then
   (idx c.Arcs i1).bind fun y1 =>
   (qfE n c y1).bind fun r1 =>
   bif (!r1) then
    some (.ret false)
   else
    (subS c.Arcs 0 i1).bind fun x1 =>
    (qak n x1 y1).bind fun r2 =>
    bif r2 then
     some (.ret false)
    else
     qbF c n (W64 (i1 + 1))
  else
   some (.nxt i1)

def qeH (n : Nat) (c : qE) : Option Bool :=
 (qbF c n 0).bind fun o => match o with
 | .ret r => some r
 | .nxt _ =>
  some (decide ((c.Arcs.length : Int) ≤ 8))

theorem qjS {n : Nat} {w : World} {c : qE} {cs1 : List Value} (ha1 : GoT.R w (old w) c cs1) {r : Bool} (hF : qeH n c = some r) : RetV Tryz.prog 220 [GoT.v qE cs1] w r := by
 obtain ⟨p1, k1, p2, k2, p3, k3, rfl, s1, s2, s3⟩ := qaa ha1
 refine qf Tryz.func220 rfl (m := 30) rfl rfl (fun h => ?_)
 rw [qeH] at hF
 refine zSR (qP h rfl rfl ?_)
 intro w1 bb1 h
 refine zp1 rfl (zNSSR (zp1 rfl (zl 0 3 h rfl (zp2 rfl (qb ?_)))))
 obtain ⟨o1, hF, hK1⟩ := qd hF
 refine qA (qW [(1, _), (6, _), (7, _), (8, _)] ⟨rfl, rfl, rfl, rfl, trivial⟩ ?_)
 refine qG (fun m e w' => ∃ (i1 : Int), qbF c m i1 = some o1 ∧ e = [(1, .pointer (some ⟨bb1, 0, none⟩)), (6, .slice p2 c.Arcs.length k2), (7, .int .i64 (c.Arcs.length : Int)), (8, .int .i64 i1)] ∧ SH w w' [Ch.box bb1 [.string c.Name, .int .i64 c.Kind, .slice p1 c.Pins.length k1, .slice p2 c.Arcs.length k2, .slice p3 c.Truth.length k3, .int .i64 c.Leak, .int .i64 c.Energy] 183]) n ⟨_, hF, rfl, h⟩ ?_
 rintro m1 e1 w2 ⟨i1, hF, rfl, h⟩
 rcases m1 with _ | m1
 ·rw [qbF] at hF
  cases hF
 rw [qbF] at hF
 refine zSR (zp1 rfl (zNS ?_))
 refine qp rfl hF ?_ ?_ <;> intro hF
 ·refine zKSBSR (zp1 rfl ?_)
  obtain ⟨y1, hy1, hF⟩ := qd hF
  have he1 := qg hy1
  obtain ⟨b1, o_1, q1, cs2, hp1, hq1, -, hr1, hc2⟩ := s2.at hy1
  obtain ⟨p4, k4, p5, k5, rfl, s4, s5⟩ := qaD hr1
  refine zxe hp1 hq1 he1 rfl (zc 0 (hc2.below h.below) rfl (qT qc h rfl rfl rfl ?_))
  intro w3 bb2 h
  refine zp1 rfl (zs 0 h rfl ?_)
  intro w4 h
  refine zNSR (zl 1 0 h rfl (zl 0 0 h rfl ?_))
  obtain ⟨r1, hr2, hF⟩ := qd hF
  refine qm r1 h call230 (qkB (h.old ha1) (qf5 y1 (h.oldS s4) (h.oldS s5)) hr2) rfl rfl rfl rfl ?_
  intro w5 h
  refine zp2 rfl ?_
  by_cases hc3 : (!r1) = true
  ·replace hF := bifT hc3 hF
   refine qC hc3 (t := 17) rfl (zn5 rfl (zn1 rfl (zp1 rfl (qb (qez rfl rfl (zSR ?_))))))
   refine zp1 rfl (qb ?_)
   obtain rfl := qj hF; replace hF := hK1
   exact qx qc h hF ⟨rfl, trivial⟩
  replace hc3 := zb hc3
  replace hF := bifF hc3 hF
  refine qD hc3 (t := 17) rfl (qa rfl (zp1 rfl (qa rfl (zl 1 3 h rfl (qa rfl (zp1 rfl (qa rfl ?_)))))))
  obtain ⟨x1, hx1, hF⟩ := qd hF
  obtain ⟨p6, k6, hp2, hk1, hl1, g1⟩ := qoR (h.oldS s2) hx1
  refine r_v (qmh qc rfl rfl rfl (qpg g1 rfl) hp2 hk1 hl1 rfl rfl rfl rfl) rfl ?_
  have s6 := qpo s2 hx1 hp2 hk1
  refine qa rfl (zp1 rfl (qa rfl ?_))
  obtain ⟨r2, hr3, hF⟩ := qd hF
  refine qm r2 h call160 (qd9 ⟨_, _, rfl, (h.oldS s6)⟩ (qh8 (x := y1) 0 h rfl (qf5 y1 (h.oldS s4) (h.oldS s5))) hr3) rfl rfl rfl rfl ?_
  intro w6 h
  refine zp1 rfl (qb ?_)
  refine qp rfl hF ?_ ?_ <;> intro hF
  ·refine zSR (zp1 rfl (qb ?_))
   obtain rfl := qj hF; replace hF := hK1
   exact qx qc h hF ⟨rfl, trivial⟩
  refine zKER (zp2 rfl (qb ?_))
  replace h := h.pick [1] rfl
  exact qy m1 [(1, _), (6, _), (7, _), (8, _)] (Nat.lt_succ_self m1) ⟨rfl, rfl, rfl, rfl, trivial⟩ ⟨_, hF, rfl, h⟩
 refine qF rfl ?_
 obtain rfl := qj hF; replace hF := hK1
 exact zSR (zp1 rfl (zl 0 3 h rfl (zp3 rfl (qb (qx qc h hF ⟨rfl, trivial⟩)))))

def qgH (_ : Nat) (a : qah) (v0 : Int) : Option Bool :=
 some (a.Kind == v0)

theorem qku {n : Nat} {w : World} {a : qah} {v0 : Int} {cs1 : List Value} (ha1 : GoT.R w (old w) a cs1) {p3 : Option Addr} (ha2 : GoT.R w (old w) (some v0) [.pointer p3]) {r : Bool} (hF : qgH n a v0 = some r) : RetV Tryz.prog 247 [GoT.v qah cs1, .pointer p3] w r := by
 obtain ⟨p1, k1, p2, k2, rfl, s1, s2⟩ := qaD ha1
 obtain ⟨b1, o_1, cs2, rfl, -, hr1, hc1⟩ := PtR.get ha2 rfl
 obtain rfl := hr1
 refine qf Tryz.func247 rfl (m := 8) rfl rfl (fun h => ?_)
 rw [qgH] at hF
 refine zSR (qP h rfl rfl ?_)
 intro w1 bb1 h
 exact zp1 rfl (zNSR (zp1 rfl (zl 0 0 h rfl (zc 0 (hc1.below h.below) rfl (zp2 rfl (qb (qx qc h hF ⟨rfl, trivial⟩)))))))

def qS (s : (List qah)) (f_0 : Int) : Nat → Int → Option (Flow Int Int)
 | 0, _ => none
 | n + 1, i1 =>
  bif decide (i1 < (s.length : Int)) then
   (idx s i1).bind fun y1 =>
   (qgH n y1 f_0).bind fun r1 =>
   bif r1 then
    some (.ret i1)
   else
    qS s f_0 n (W64 (i1 + 1))
  else
   some (.nxt i1)

def qa9 (n : Nat) (s : (List qah)) (f_0 : Int) : Option Int :=
 (qS s f_0 n 0).bind fun o => match o with
 | .ret r => some r
 | .nxt _ =>
  some (-1)

theorem qff {n : Nat} {w : World} {s : (List qah)} {f_0 : Int} {cs1 : List Value} (ha1 : GoT.R w (old w) s cs1) {p2 : Option Addr} (ha2 : GoT.R w (old w) (some f_0) [.pointer p2]) {r : Int} (hF : qa9 n s f_0 = some r) : RetV Tryz.prog 191 [GoT.v (List qah) cs1, .func (.func 247) #[] #[.pointer p2]] w r := by
 obtain ⟨p1, k1, rfl, s1⟩ := ha1
 obtain ⟨b1, o_1, cs2, rfl, -, hr1, hc1⟩ := PtR.get ha2 rfl
 obtain rfl := hr1
 refine qf Tryz.func191 rfl (m := 19) rfl rfl (fun h => ?_)
 rw [qa9] at hF
 refine zSR (zp1 rfl (zNSSR (zp3 rfl (qb ?_))))
 obtain ⟨o1, hF, hK1⟩ := qd hF
 refine qA (qW [(0, _), (1, _), (7, _), (8, _)] ⟨rfl, rfl, rfl, rfl, trivial⟩ ?_)
 refine qG (fun m e w' => ∃ (i1 : Int), qS s f_0 m i1 = some o1 ∧ e = [(0, .slice p1 s.length k1), (1, .func (.func 247) #[] #[.pointer (some ⟨b1, o_1, none⟩)]), (7, .int .i64 (s.length : Int)), (8, .int .i64 i1)] ∧ SH w w' []) n ⟨_, hF, rfl, h⟩ ?_
 rintro m1 e1 w1 ⟨i1, hF, rfl, h⟩
 rcases m1 with _ | m1
 ·rw [qS] at hF
  cases hF
 rw [qS] at hF
 refine zSR (zp1 rfl (zNS ?_))
 refine qp rfl hF ?_ ?_ <;> intro hF
 ·refine zKSBSR (zp2 rfl (zNSR (zp2 rfl ?_)))
  refine zp1 rfl ?_
  obtain ⟨y1, hy1, hF⟩ := qd hF
  have he1 := qg hy1
  obtain ⟨b2, o_2, q1, cs3, hp1, hq1, -, hr2, hc3⟩ := s1.at hy1
  obtain ⟨p3, k2, p4, k3, rfl, s2, s3⟩ := qaD hr2
  refine zxe hp1 hq1 he1 rfl (zc 0 (hc3.below h.below) rfl ?_)
  obtain ⟨r1, hr3, hF⟩ := qd hF
  refine qm r1 h call247 (qku (qf5 y1 (h.oldS s2) (h.oldS s3)) (h.old ha2) hr3) rfl rfl rfl rfl ?_
  intro w2 h
  refine qb ?_
  refine qp rfl hF ?_ ?_ <;> intro hF
  ·refine zSR (zp2 rfl (qb ?_))
   obtain rfl := qj hF; replace hF := hK1
   exact qar qc h hF ⟨rfl, trivial⟩
  exact zKER (zp2 rfl (qb (qy m1 [(0, _), (1, _), (7, _), (8, _)] (Nat.lt_succ_self m1) ⟨rfl, rfl, rfl, rfl, trivial⟩ ⟨_, hF, rfl, h⟩)))
 refine qF rfl ?_
 obtain rfl := qj hF; replace hF := hK1
 exact zSR (zp1 rfl (qb (qar qc h hF ⟨rfl, trivial⟩)))

def qaU (n : Nat) (s : (List qah)) (f_0 : Int) : Option Bool :=
 (qa9 n s f_0).bind fun r1 =>
 some (decide (r1 ≥ 0))

theorem qeV {n : Nat} {w : World} {s : (List qah)} {f_0 : Int} {cs1 : List Value} (ha1 : GoT.R w (old w) s cs1) {p2 : Option Addr} (ha2 : GoT.R w (old w) (some f_0) [.pointer p2]) {r : Bool} (hF : qaU n s f_0 = some r) : RetV Tryz.prog 160 [GoT.v (List qah) cs1, .func (.func 247) #[] #[.pointer p2]] w r := by
 obtain ⟨p1, k1, rfl, s1⟩ := ha1
 obtain ⟨b1, o_1, cs2, rfl, -, hr1, hc1⟩ := PtR.get ha2 rfl
 obtain rfl := hr1
 refine qf Tryz.func160 rfl (m := 9) rfl rfl (fun h => ?_)
 rw [qaU] at hF
 refine zSR (zp1 rfl (zNSR (zp2 rfl ?_)))
 obtain ⟨r1, hr2, hF⟩ := qd hF
 refine qN r1 h call191 (qff ⟨_, _, rfl, (h.oldS s1)⟩ (h.old ha2) hr2) rfl rfl rfl rfl ?_
 intro w1 h
 exact zp2 rfl (qb (qx qc h hF ⟨rfl, trivial⟩))

def qcU (n : Nat) (c : qE) (kind : Int) : Option Bool :=
 (qaU n c.Arcs kind).bind fun r1 =>
 some r1

theorem qeg {n : Nat} {w : World} {c : qE} {kind : Int} {cs1 : List Value} (ha1 : GoT.R w (old w) c cs1) {r : Bool} (hF : qcU n c kind = some r) : RetV Tryz.prog 232 [GoT.v qE cs1, .int .i64 kind] w r := by
 obtain ⟨p1, k1, p2, k2, p3, k3, rfl, s1, s2, s3⟩ := qaa ha1
 refine qf Tryz.func232 rfl (m := 9) rfl rfl (fun h => ?_)
 rw [qcU] at hF
 refine zSR (qP h rfl rfl ?_)
 intro w1 bb1 h
 refine qP h rfl rfl ?_
 intro w2 bb2 h
 refine zp1 rfl (zNSR (zp1 rfl (zl 1 3 h rfl (zp1 rfl ?_))))
 obtain ⟨r1, hr1, hF⟩ := qd hF
 refine qm r1 h call160 (qeV ⟨_, _, rfl, (h.oldS s2)⟩ (qh8 (x := kind) 0 h rfl rfl) hr1) rfl rfl rfl rfl ?_
 intro w3 h
 exact zp1 rfl (qb (qx qc h hF ⟨rfl, trivial⟩))

def qaW (a_0 : qE) : Nat → Int → Int → Option (Int × Int)
 | 0, _, _ => none
 | n + 1, i1, i2 =>
  bif decide (i2 < (a_0.Pins.length : Int)) then
   (idx a_0.Pins i2).bind fun y1 =>
   bif y1.Clock then
    qaW a_0 n (W64 (i1 + 1)) (W64 (i2 + 1))
   else
    qaW a_0 n i1 (W64 (i2 + 1))
  else
   some (i1, i2)

def qeu (n : Nat) (a_0 : qE) : Option Bool :=
 (qaW a_0 n 0 0).bind fun o => match o with
 | (i1, _) =>
  bif (a_0.Kind == 1) then
   bif (i1 == 0) then
    (qcj n a_0).bind fun r1 =>
    (shlS 1 r1).bind fun y2 =>
    bif ((a_0.Truth.length : Int) == y2) then
     (qby n a_0.Truth 0 1).bind fun r2 =>
     some r2
    else
     some false
   else
    some false
  else
   bif (a_0.Kind == 2) then
    bif (i1 == 1) then
     bif ((a_0.Truth.length : Int) == 0) then
      (qcU n a_0 1).bind fun r3 =>
      bif (!r3) then
       (qcU n a_0 2).bind fun r4 =>
       (qcU n a_0 3).bind fun r5 =>
       some (!(r4 == r5))
      else
       some false
     else
      some false
    else
     some false
   else
    bif (a_0.Kind == 3) then
     bif (i1 == 1) then
      bif ((a_0.Truth.length : Int) == 0) then
       (qcU n a_0 1).bind fun r6 =>
       bif r6 then
        (qcU n a_0 2).bind fun r7 =>
        bif r7 then
         (qcU n a_0 3).bind fun r8 =>
         some (!r8)
        else
         some false
       else
        some false
      else
       some false
     else
      some false
    else
     some false

theorem qjE {n : Nat} {w : World} {a_0 : qE} {cs1 : List Value} (ha1 : GoT.R w (old w) a_0 cs1) {r : Bool} (hF : qeu n a_0 = some r) : RetV Tryz.prog 221 [GoT.v qE cs1] w r := by
 obtain ⟨p1, k1, p2, k2, p3, k3, rfl, s1, s2, s3⟩ := qaa ha1
 refine qf Tryz.func221 rfl (m := 83) rfl rfl (fun h => ?_)
 rw [qeu] at hF
 refine zSR (qP h rfl rfl ?_)
 intro w1 bb1 h
 refine zp1 rfl (zNSR (zp1 rfl (zNSSR (zp1 rfl (zl 0 2 h rfl (zp1 rfl ?_))))))
 refine zp1 rfl (qb ?_)
 obtain ⟨o1, hF, hK1⟩ := qd hF
 refine qA (qW [(1, _), (3, _), (7, _), (8, _), (9, _)] ⟨rfl, rfl, rfl, rfl, rfl, trivial⟩ ?_)
 refine qG (fun m e w' => ∃ (i1 : Int) (i2 : Int), qaW a_0 m i1 i2 = some o1 ∧ e = [(1, .pointer (some ⟨bb1, 0, none⟩)), (3, .int .i64 i1), (7, .slice p1 a_0.Pins.length k1), (8, .int .i64 (a_0.Pins.length : Int)), (9, .int .i64 i2)] ∧ SH w w' [Ch.box bb1 [.string a_0.Name, .int .i64 a_0.Kind, .slice p1 a_0.Pins.length k1, .slice p2 a_0.Arcs.length k2, .slice p3 a_0.Truth.length k3, .int .i64 a_0.Leak, .int .i64 a_0.Energy] 183]) n ⟨_, _, hF, rfl, h⟩ ?_
 rintro m1 e1 w2 ⟨i1, i2, hF, rfl, h⟩
 rcases m1 with _ | m1
 ·rw [qaW] at hF
  cases hF
 rw [qaW] at hF
 refine zSR (zp1 rfl (zNS ?_))
 refine qp rfl hF ?_ ?_ <;> intro hF
 ·refine zKSBSR ?_
  obtain ⟨y1, hy1, hF⟩ := qd hF
  have he1 := qg hy1
  obtain ⟨b1, o_1, q1, cs2, hp1, hq1, -, hr1, hc2⟩ := s1.at hy1
  obtain rfl := qbx hr1
  refine zxe hp1 hq1 he1 rfl (zc 0 (hc2.below h.below) rfl (qT qc h rfl rfl rfl ?_))
  intro w3 bb2 h
  refine zs 0 h rfl ?_
  intro w4 h
  refine zNSR (zp1 rfl (zl 0 3 h rfl (qb ?_)))
  refine qp rfl hF ?_ ?_ <;> intro hF
  ·refine qB (zp3 rfl (zNER (zp2 rfl (qb ?_))))
   replace h := h.pick [1] rfl
   exact qy m1 [(1, _), (3, _), (7, _), (8, _), (9, _)] (Nat.lt_succ_self m1) ⟨rfl, rfl, rfl, rfl, rfl, trivial⟩ ⟨_, _, hF, rfl, h⟩
  refine zKER (zp2 rfl (qb ?_))
  replace h := h.pick [1] rfl
  exact qy m1 [(1, _), (3, _), (7, _), (8, _), (9, _)] (Nat.lt_succ_self m1) ⟨rfl, rfl, rfl, rfl, rfl, trivial⟩ ⟨_, _, hF, rfl, h⟩
 refine qF rfl ?_
 obtain rfl := qj hF; replace hF := hK1
 refine zSSR (zp1 rfl (zl 0 1 h rfl (qb (zBSR (zp2 rfl (qb ?_))))))
 refine qp rfl hF ?_ ?_ <;> intro hF
 ·refine qbl ?_
  refine qb3 rfl (by kernel_rfl) ?_
  refine zd3 rfl ?_
  by_cases hc5 : (i1 == 0) = true
  ·replace hF := bifT hc5 hF
   refine qch hc5 (t := 24) rfl (qh rfl (zd1 rfl (qh rfl ?_)))
   refine zdl 0 4 h rfl ?_
   refine qh rfl (zd1 rfl (qh rfl ?_))
   refine zdl 0 0 h rfl ?_
   refine qh rfl ?_
   obtain ⟨r1, hr2, hF⟩ := qd hF
   refine qb7 r1 (vsI _) call163 (fun _ hb => qe5 ((h.ext hb).old ha1) hr2) rfl rfl rfl rfl ?_
   refine qh rfl ?_
   obtain ⟨y2, hx1, hF⟩ := qd hF
   obtain ⟨g1, hx1⟩ := qlk hx1
   refine d_v (fun _ hb => qqU g1 rfl rfl) rfl ?_
   rw [hx1]
   refine qh rfl (zd3 rfl ?_)
   by_cases hc6 : ((a_0.Truth.length : Int) == y2) = true
   ·replace hF := bifT hc6 hF
    refine qch hc6 (t := 33) rfl (qh rfl (zd1 rfl (qh rfl ?_)))
    refine zdl 0 4 h rfl ?_
    refine qh rfl ?_
    obtain ⟨r2, hr3, hF⟩ := qd hF
    refine qb7 r2 (vsB _) call112 (fun _ hb => qct ⟨_, _, rfl, ((h.ext hb).oldS s3)⟩ hr3) rfl rfl rfl rfl ?_
    refine zd2 rfl ?_
    refine qaR (fun w5 hb => ?_)
    replace h := h.ext hb
    clear hb
    exact qx qc h hF ⟨rfl, trivial⟩
   replace hc6 := zb hc6
   replace hF := bifF hc6 hF
   refine qci hc6 (t := 33) rfl (qi rfl rfl rfl (qi rfl rfl rfl (qi rfl rfl rfl (zd2 rfl ?_))))
   refine qaR (fun w6 hb => ?_)
   replace h := h.ext hb
   clear hb
   exact qx qc h hF ⟨rfl, trivial⟩
  replace hc5 := zb hc5
  replace hF := bifF hc5 hF
  refine qci hc5 (t := 24) rfl (qi rfl rfl rfl (qi rfl rfl rfl (qi rfl rfl rfl (qi rfl rfl rfl (qi rfl rfl rfl (qi rfl rfl rfl (qi rfl rfl rfl (zd2 rfl (qi rfl rfl rfl (qi rfl rfl rfl ?_))))))))))
  refine qi rfl rfl rfl (zd2 rfl ?_)
  refine qaR (fun w7 hb => ?_)
  replace h := h.ext hb
  clear hb
  exact qx qc h hF ⟨rfl, trivial⟩
 refine zSR (zp2 rfl (qb ?_))
 refine qp rfl hF ?_ ?_ <;> intro hF
 ·refine qbl ?_
  refine qb3 rfl (by kernel_rfl) ?_
  refine zd3 rfl ?_
  by_cases hc8 : (i1 == 1) = true
  ·replace hF := bifT hc8 hF
   refine qch hc8 (t := 42) rfl (qh rfl (zd1 rfl (qh rfl ?_)))
   refine zdl 0 4 h rfl ?_
   refine qh rfl (zd1 rfl (qh rfl (zd3 rfl ?_)))
   by_cases hc9 : ((a_0.Truth.length : Int) == 0) = true
   ·replace hF := bifT hc9 hF
    refine qch hc9 (t := 48) rfl (qh rfl ?_)
    refine zdl 0 0 h rfl ?_
    refine qh rfl ?_
    obtain ⟨r3, hr4, hF⟩ := qd hF
    refine qb7 r3 (vsB _) call232 (fun _ hb => qeg ((h.ext hb).old ha1) hr4) rfl rfl rfl rfl ?_
    refine qh rfl (zd3 rfl ?_)
    by_cases hc10 : (!r3) = true
    ·replace hF := bifT hc10 hF
     refine qch hc10 (t := 53) rfl (qh rfl ?_)
     refine zdl 0 0 h rfl ?_
     refine qh rfl ?_
     obtain ⟨r4, hr5, hF⟩ := qd hF
     refine qb7 r4 (vsB _) call232 (fun _ hb => qeg ((h.ext hb).old ha1) hr5) rfl rfl rfl rfl ?_
     refine qh rfl ?_
     refine zdl 0 0 h rfl ?_
     refine qh rfl ?_
     obtain ⟨r5, hr6, hF⟩ := qd hF
     refine qb7 r5 (vsB _) call232 (fun _ hb => qeg ((h.ext hb).old ha1) hr6) rfl rfl rfl rfl ?_
     refine qh rfl (zd3 rfl ?_)
     refine qaR (fun w8 hb => ?_)
     replace h := h.ext hb
     clear hb
     exact qx qc h hF ⟨rfl, trivial⟩
    replace hc10 := zb hc10
    replace hF := bifF hc10 hF
    refine qci hc10 (t := 53) rfl (qi rfl rfl rfl (qi rfl rfl rfl (qi rfl rfl rfl (qi rfl rfl rfl (qi rfl rfl rfl (zd2 rfl ?_))))))
    refine qaR (fun w9 hb => ?_)
    replace h := h.ext hb
    clear hb
    exact qx qc h hF ⟨rfl, trivial⟩
   replace hc9 := zb hc9
   replace hF := bifF hc9 hF
   refine qci hc9 (t := 48) rfl (qi rfl rfl rfl (qi rfl rfl rfl (qi rfl rfl rfl (zd2 rfl (qi rfl rfl rfl (qi rfl rfl rfl (qi rfl rfl rfl (qi rfl rfl rfl (qi rfl rfl rfl (zd1 rfl ?_))))))))))
   refine zd1 rfl ?_
   refine qaR (fun w10 hb => ?_)
   replace h := h.ext hb
   clear hb
   exact qx qc h hF ⟨rfl, trivial⟩
  replace hc8 := zb hc8
  replace hF := bifF hc8 hF
  refine qci hc8 (t := 42) rfl (qi rfl rfl rfl (qi rfl rfl rfl (qi rfl rfl rfl (qi rfl rfl rfl (zd2 rfl (qi rfl rfl rfl (qi rfl rfl rfl (qi rfl rfl rfl (zd2 rfl ?_)))))))))
  refine qi rfl rfl rfl (qi rfl rfl rfl (qi rfl rfl rfl (qi rfl rfl rfl (qi rfl rfl rfl (zd2 rfl ?_)))))
  refine qaR (fun w11 hb => ?_)
  replace h := h.ext hb
  clear hb
  exact qx qc h hF ⟨rfl, trivial⟩
 refine zSR (zp2 rfl (qb ?_))
 refine qp rfl hF ?_ ?_ <;> intro hF
 ·refine zSR (zp3 rfl ?_)
  by_cases hc12 : (i1 == 1) = true
  ·replace hF := bifT hc12 hF
   refine qC hc12 (t := 64) rfl (qa rfl (zp1 rfl (qa rfl (zl 0 4 h rfl (qa rfl (zp1 rfl (qa rfl (zp3 rfl ?_))))))))
   by_cases hc13 : ((a_0.Truth.length : Int) == 0) = true
   ·replace hF := bifT hc13 hF
    refine qC hc13 (t := 70) rfl (qa rfl (zl 0 0 h rfl (qa rfl ?_)))
    obtain ⟨r6, hr7, hF⟩ := qd hF
    refine qm r6 h call232 (qeg (h.old ha1) hr7) rfl rfl rfl rfl ?_
    intro w12 h
    refine zp2 rfl ?_
    by_cases hc14 : r6 = true
    ·replace hF := bifT hc14 hF
     refine qC hc14 (t := 74) rfl (qa rfl (zl 0 0 h rfl (qa rfl ?_)))
     obtain ⟨r7, hr8, hF⟩ := qd hF
     refine qm r7 h call232 (qeg (h.old ha1) hr8) rfl rfl rfl rfl ?_
     intro w13 h
     refine zp2 rfl ?_
     by_cases hc15 : r7 = true
     ·replace hF := bifT hc15 hF
      refine qC hc15 (t := 78) rfl (qa rfl (zl 0 0 h rfl (qa rfl ?_)))
      obtain ⟨r8, hr9, hF⟩ := qd hF
      refine qm r8 h call232 (qeg (h.old ha1) hr9) rfl rfl rfl rfl ?_
      intro w14 h
      exact qa rfl (zp3 rfl (qb (qx qc h hF ⟨rfl, trivial⟩)))
     replace hc15 := zb hc15
     replace hF := bifF hc15 hF
     exact qD hc15 (t := 78) rfl (zn3 rfl (zp2 rfl (qb (qx qc h hF ⟨rfl, trivial⟩))))
    replace hc14 := zb hc14
    replace hF := bifF hc14 hF
    exact qD hc14 (t := 74) rfl (zn2 rfl (zp2 rfl (zn3 rfl (zp2 rfl (qb (qx qc h hF ⟨rfl, trivial⟩))))))
   replace hc13 := zb hc13
   replace hF := bifF hc13 hF
   refine qD hc13 (t := 70) rfl (zn2 rfl (zp2 rfl (zn2 rfl (zp2 rfl (zn3 rfl ?_)))))
   exact zp2 rfl (qb (qx qc h hF ⟨rfl, trivial⟩))
  replace hc12 := zb hc12
  replace hF := bifF hc12 hF
  refine qD hc12 (t := 64) rfl (zn4 rfl (zp2 rfl (zn2 rfl (zp2 rfl (zn1 rfl ?_)))))
  exact zn1 rfl (zp2 rfl (zn3 rfl (zp2 rfl (qb (qx qc h hF ⟨rfl, trivial⟩)))))
 exact zKE (zSR (zp1 rfl (qb (qx qc h hF ⟨rfl, trivial⟩))))

def qh2 (n : Nat) (c : qE) : Option Bool :=
 (qgZ n c.Name).bind fun r1 =>
 bif r1 then
  (qhs n c.Pins).bind fun r2 =>
  bif r2 then
   (qeH n c).bind fun r3 =>
   bif r3 then
    (qaY n c.Leak 0 100000).bind fun r4 =>
    bif r4 then
     (qaY n c.Energy 0 100000).bind fun r5 =>
     bif r5 then
      (qeu n c).bind fun r6 =>
      some r6
     else
      some false
    else
     some false
   else
    some false
  else
   some false
 else
  some false

theorem qmg {n : Nat} {w : World} {c : qE} {cs1 : List Value} (ha1 : GoT.R w (old w) c cs1) {r : Bool} (hF : qh2 n c = some r) : RetV Tryz.prog 204 [GoT.v qE cs1] w r := by
 obtain ⟨p1, k1, p2, k2, p3, k3, rfl, s1, s2, s3⟩ := qaa ha1
 refine qf Tryz.func204 rfl (m := 29) rfl rfl (fun h => ?_)
 rw [qh2] at hF
 refine zSR (qP h rfl rfl ?_)
 intro w1 bb1 h
 refine zp1 rfl (zNSR (zp1 rfl (zl 0 0 h rfl ?_)))
 obtain ⟨r1, hr1, hF⟩ := qd hF
 refine qm r1 h call218 (qj7 hr1) rfl rfl rfl rfl ?_
 intro w2 h
 refine zp1 rfl ?_
 by_cases hc1 : r1 = true
 ·replace hF := bifT hc1 hF
  refine qC hc1 (t := 6) rfl (qa rfl (zp1 rfl (qa rfl (zl 0 2 h rfl (qa rfl ?_)))))
  obtain ⟨r2, hr2, hF⟩ := qd hF
  refine qm r2 h call219 (qlG ⟨_, _, rfl, (h.oldS s1)⟩ hr2) rfl rfl rfl rfl ?_
  intro w3 h
  refine zp2 rfl ?_
  by_cases hc2 : r2 = true
  ·replace hF := bifT hc2 hF
   refine qC hc2 (t := 11) rfl (qa rfl (zl 0 0 h rfl (qa rfl ?_)))
   obtain ⟨r3, hr3, hF⟩ := qd hF
   refine qm r3 h call220 (qjS (h.old ha1) hr3) rfl rfl rfl rfl ?_
   intro w4 h
   refine zp2 rfl ?_
   by_cases hc3 : r3 = true
   ·replace hF := bifT hc3 hF
    refine qC hc3 (t := 15) rfl (qa rfl (zp1 rfl (qa rfl (zl 0 5 h rfl (qa rfl ?_)))))
    obtain ⟨r4, hr4, hF⟩ := qd hF
    refine qm r4 h call86 (qaF hr4) rfl rfl rfl rfl ?_
    intro w5 h
    refine zp2 rfl ?_
    by_cases hc4 : r4 = true
    ·replace hF := bifT hc4 hF
     refine qC hc4 (t := 20) rfl (qa rfl (zp1 rfl (qa rfl (zl 0 6 h rfl (qa rfl ?_)))))
     obtain ⟨r5, hr5, hF⟩ := qd hF
     refine qm r5 h call86 (qaF hr5) rfl rfl rfl rfl ?_
     intro w6 h
     refine zp2 rfl ?_
     by_cases hc5 : r5 = true
     ·replace hF := bifT hc5 hF
      refine qC hc5 (t := 25) rfl (qa rfl (zl 0 0 h rfl (qa rfl ?_)))
      obtain ⟨r6, hr6, hF⟩ := qd hF
      refine qm r6 h call221 (qjE (h.old ha1) hr6) rfl rfl rfl rfl ?_
      intro w7 h
      exact zp2 rfl (qb (qx qc h hF ⟨rfl, trivial⟩))
     replace hc5 := zb hc5
     replace hF := bifF hc5 hF
     exact qD hc5 (t := 25) rfl (zn2 rfl (zp2 rfl (qb (qx qc h hF ⟨rfl, trivial⟩))))
    replace hc4 := zb hc4
    replace hF := bifF hc4 hF
    exact qD hc4 (t := 20) rfl (zn3 rfl (zp2 rfl (zn2 rfl (zp2 rfl (qb (qx qc h hF ⟨rfl, trivial⟩))))))
   replace hc3 := zb hc3
   replace hF := bifF hc3 hF
   refine qD hc3 (t := 15) rfl (zn3 rfl (zp2 rfl (zn3 rfl (zp2 rfl (zn1 rfl ?_)))))
   exact zn1 rfl (zp2 rfl (qb (qx qc h hF ⟨rfl, trivial⟩)))
  replace hc2 := zb hc2
  replace hF := bifF hc2 hF
  refine qD hc2 (t := 11) rfl (zn2 rfl (zp2 rfl (zn3 rfl (zp2 rfl (zn2 rfl ?_)))))
  exact zn1 rfl (zp2 rfl (zn2 rfl (zp2 rfl (qb (qx qc h hF ⟨rfl, trivial⟩)))))
 replace hc1 := zb hc1
 replace hF := bifF hc1 hF
 refine qD hc1 (t := 6) rfl (zn3 rfl (zp2 rfl (zn2 rfl (zp2 rfl (zn2 rfl ?_)))))
 refine zn1 rfl (zp2 rfl (zn3 rfl (zp2 rfl (zn2 rfl (zp2 rfl ?_)))))
 exact qb (qx qc h hF ⟨rfl, trivial⟩)

def qbZ (l : qw) : Nat → (List ByteArray) → Int → Option (Flow Bool ((List ByteArray) × Int))
 | 0, _, _ => none
 | n + 1, x1, i1 =>
  bif decide (i1 < (l.Cells.length : Int)) then
   (idx l.Cells i1).bind fun y1 =>
   (qh2 n y1).bind fun r1 =>
   bif (!r1) then
    some (.ret false)
   else
    (appS x1 ([y1.Name] : List ByteArray)).bind fun x2 =>
    qbZ l n x2 (W64 (i1 + 1))
  else
   some (.nxt (x1, i1))

def qf7 (n : Nat) (l : qw) : Option Bool :=
 (qbZ l n ([] : List ByteArray) 0).bind fun o => match o with
 | .ret r => some r
 | .nxt (x1, _) =>
  bif decide ((l.Cells.length : Int) ≤ 8) then
   (qdv n x1).bind fun r2 =>
   some r2
  else
   some false

theorem qkX {n : Nat} {w : World} {l : qw} {cs1 : List Value} (ha1 : GoT.R w (old w) l cs1) {r : Bool} (hF : qf7 n l = some r) : RetV Tryz.prog 179 [GoT.v qw cs1] w r := by
 obtain ⟨p1, k1, rfl, s1⟩ := qbB ha1
 refine qf Tryz.func179 rfl (m := 30) rfl rfl (fun h => ?_)
 rw [qf7] at hF
 refine zSR (qP h rfl rfl ?_)
 intro w1 bb1 h
 refine zp1 rfl (zNSR (zp1 rfl (zNSSR (zp1 rfl (zl 0 0 h rfl (zp1 rfl ?_))))))
 refine zp1 rfl (qb ?_)
 replace h := h.nil (α := ByteArray)
 obtain ⟨o1, hF, hK1⟩ := qd hF
 refine qA (qW [(1, _), (3, _), (7, _), (8, _), (9, _)] ⟨rfl, rfl, rfl, rfl, rfl, trivial⟩ ?_)
 refine qG (fun m e w' => ∃ (S1 : Nat → Prop) (p2 : Option Addr) (ln1 : Nat) (k2 : Nat) (x1 : (List ByteArray)) (i1 : Int), qbZ l m x1 i1 = some o1 ∧ e = [(1, .pointer (some ⟨bb1, 0, none⟩)), (3, .slice p2 ln1 k2), (7, .slice p1 l.Cells.length k1), (8, .int .i64 (l.Cells.length : Int)), (9, .int .i64 i1)] ∧ SH w w' [Ch.own S1 (x1 : List ByteArray) [.slice p2 ln1 k2], Ch.box bb1 [.slice p1 l.Cells.length k1] 43]) n ⟨_, _, _, _, _, _, hF, rfl, h⟩ ?_
 rintro m1 e1 w2 ⟨S1, p2, ln1, k2, x1, i1, hF, rfl, h⟩
 obtain rfl := (h.sl 0 rfl).2
 rcases m1 with _ | m1
 ·rw [qbZ] at hF
  cases hF
 rw [qbZ] at hF
 refine zSR (zp1 rfl (zNS ?_))
 refine qp rfl hF ?_ ?_ <;> intro hF
 ·refine zKSBSR ?_
  obtain ⟨y1, hy1, hF⟩ := qd hF
  have he1 := qg hy1
  obtain ⟨b1, o_1, q1, cs2, hp1, hq1, -, hr1, hc2⟩ := s1.at hy1
  obtain ⟨p3, k3, p4, k4, p5, k5, rfl, s2, s3, s4⟩ := qaa hr1
  refine zxe hp1 hq1 he1 rfl (zc 0 (hc2.below h.below) rfl (qT qc h rfl rfl rfl ?_))
  intro w3 bb2 h
  refine zs 0 h rfl ?_
  intro w4 h
  replace h : SH _ _ [Ch.box bb2 [.string y1.Name, .int .i64 y1.Kind, .slice p3 y1.Pins.length k3, .slice p4 y1.Arcs.length k4, .slice p5 y1.Truth.length k5, .int .i64 y1.Leak, .int .i64 y1.Energy] 183, Ch.own S1 (x1 : List ByteArray) [.slice p2 x1.length k2], Ch.box bb1 [.slice p1 l.Cells.length k1] 43] := h
  refine zNSSR (zl 0 0 h rfl ?_)
  obtain ⟨r1, hr2, hF⟩ := qd hF
  refine qm r1 h call204 (qmg (qgW y1 (h.oldS s2) (h.oldS s3) (h.oldS s4)) hr2) rfl rfl rfl rfl ?_
  intro w5 h
  refine zp1 rfl (qb ?_)
  refine qp rfl hF ?_ ?_ <;> intro hF
  ·refine zSR (zp1 rfl (qb ?_))
   obtain rfl := qj hF; replace hF := hK1
   exact qx qc h hF ⟨rfl, trivial⟩
  refine qd1 (qB (zp2 rfl (zl 0 0 h rfl (qaN qc [.tmp 18] _ ([y1.Name] : List ByteArray) h rfl rfl rfl rfl rfl rfl rfl rfl rfl ⟨rfl, trivial⟩ rfl ?_))))
  intro w6 p6 S2 h
  obtain ⟨x2, hx1, hF⟩ := qd hF
  obtain ⟨g1, hx1⟩ := qbm hx1
  refine qeC qc 2 h rfl (h.sl 0 rfl).1 (h.sl 0 rfl).2 rfl rfl rfl rfl rfl rfl rfl rfl rfl g1 hx1 rfl ?_
  intro w7 p7 k6 S3 h
  refine zp1 rfl (zNER (zp2 rfl (qb ?_)))
  replace h := h.pick [2, 3] rfl
  exact qy m1 [(1, _), (3, _), (7, _), (8, _), (9, _)] (Nat.lt_succ_self m1) ⟨rfl, rfl, rfl, rfl, rfl, trivial⟩ ⟨_, _, _, _, _, _, hF, rfl, h⟩
 refine qF rfl ?_
 obtain rfl := qj hF; replace hF := hK1
 refine zSR (zp1 rfl (zl 1 0 h rfl (zp3 rfl ?_)))
 by_cases hc4 : (decide ((l.Cells.length : Int) ≤ 8)) = true
 ·replace hF := bifT hc4 hF
  refine qC hc4 (t := 26) rfl (qa rfl (zp1 rfl (qa rfl ?_)))
  obtain ⟨r2, hr3, hF⟩ := qd hF
  refine qm r2 h call205 (qfe (h.own 0 rfl) hr3) rfl rfl rfl rfl ?_
  intro w8 h
  exact zp2 rfl (qb (qx qc h hF ⟨rfl, trivial⟩))
 replace hc4 := zb hc4
 replace hF := bifF hc4 hF
 exact qD hc4 (t := 26) rfl (zn2 rfl (zp2 rfl (qb (qx qc h hF ⟨rfl, trivial⟩))))

def qaT (d : ql) : Nat → (List ByteArray) → Int → Option ((List ByteArray) × Int)
 | 0, _, _ => none
 | n + 1, x3, i2 =>
  bif decide (i2 < (d.Ports.length : Int)) then
   (idx d.Ports i2).bind fun y2 =>
   (appS x3 ([y2.Name] : List ByteArray)).bind fun x4 =>
   qaT d n x4 (W64 (i2 + 1))
  else
   some (x3, i2)

def qaS (d : ql) : Nat → (List ByteArray) → Int → Option ((List ByteArray) × Int)
 | 0, _, _ => none
 | n + 1, x1, i1 =>
  bif decide (i1 < (d.Instances.length : Int)) then
   (idx d.Instances i1).bind fun y1 =>
   (appS x1 ([y1.Name] : List ByteArray)).bind fun x2 =>
   qaS d n x2 (W64 (i1 + 1))
  else
   some (x1, i1)

def qdP (n : Nat) (d : ql) : Option Bool :=
 (qaS d n ([] : List ByteArray) 0).bind fun o => match o with
 | (x1, _) =>
  (qaT d n ([] : List ByteArray) 0).bind fun o => match o with
  | (x3, _) =>
   bif decide ((x1.length : Int) ≤ 14) then
    bif decide ((d.Nets.length : Int) ≤ 30) then
     bif decide ((x3.length : Int) ≤ 8) then
      (qdv n x1).bind fun r1 =>
      bif r1 then
       (qdv n d.Nets).bind fun r2 =>
       bif r2 then
        (qdv n x3).bind fun r3 =>
        some r3
       else
        some false
      else
       some false
     else
      some false
    else
     some false
   else
    some false

theorem qjd {n : Nat} {w : World} {d : ql} {cs1 : List Value} (ha1 : GoT.R w (old w) d cs1) {r : Bool} (hF : qdP n d = some r) : RetV Tryz.prog 180 [GoT.v ql cs1] w r := by
 obtain ⟨p1, k1, p2, k2, p3, k3, rfl, s1, s2, s3⟩ := qaz ha1
 refine qf Tryz.func180 rfl (m := 62) rfl rfl (fun h => ?_)
 rw [qdP] at hF
 refine zSR (qP h rfl rfl ?_)
 intro w1 bb1 h
 refine zp1 rfl (zNSR (zp2 rfl (zNSSR (zp1 rfl (zl 0 0 h rfl ?_)))))
 refine zp2 rfl (qb ?_)
 replace h := h.nil (α := ByteArray)
 obtain ⟨o1, hF, hK1⟩ := qd hF
 refine qA (qW [(1, _), (3, _), (4, _), (10, _), (11, _), (12, _)] ⟨rfl, rfl, rfl, rfl, rfl, rfl, trivial⟩ ?_)
 refine qG (fun m e w' => ∃ (S1 : Nat → Prop) (p4 : Option Addr) (ln1 : Nat) (k4 : Nat) (x1 : (List ByteArray)) (i1 : Int), qaS d m x1 i1 = some o1 ∧ e = [(1, .pointer (some ⟨bb1, 0, none⟩)), (3, .slice p4 ln1 k4), (4, .slice none 0 0), (10, .slice p1 d.Instances.length k1), (11, .int .i64 (d.Instances.length : Int)), (12, .int .i64 i1)] ∧ SH w w' [Ch.own S1 (x1 : List ByteArray) [.slice p4 ln1 k4], Ch.box bb1 [.slice p1 d.Instances.length k1, .slice p2 d.Nets.length k2, .slice p3 d.Ports.length k3] 47]) n ⟨_, _, _, _, _, _, hF, rfl, h⟩ ?_
 rintro m1 e1 w2 ⟨S1, p4, ln1, k4, x1, i1, hF, rfl, h⟩
 obtain rfl := (h.sl 0 rfl).2
 rcases m1 with _ | m1
 ·rw [qaS] at hF
  cases hF
 rw [qaS] at hF
 refine zSR (zp1 rfl (zNS ?_))
 refine qp rfl hF ?_ ?_ <;> intro hF
 ·refine zKSBSR ?_
  obtain ⟨y1, hy1, hF⟩ := qd hF
  have he1 := qg hy1
  obtain ⟨b1, o_1, q1, cs2, hp1, hq1, -, hr1, hc2⟩ := s1.at hy1
  obtain ⟨p5, k5, rfl, s4⟩ := qab hr1
  refine zxe hp1 hq1 he1 rfl (zc 0 (hc2.below h.below) rfl (qT qc h rfl rfl rfl ?_))
  intro w3 bb2 h
  refine zs 0 h rfl ?_
  intro w4 h
  replace h : SH _ _ [Ch.box bb2 [.string y1.Name, .int .i64 y1.Cell, .slice p5 y1.Nets.length k5] 185, Ch.own S1 (x1 : List ByteArray) [.slice p4 x1.length k4], Ch.box bb1 [.slice p1 d.Instances.length k1, .slice p2 d.Nets.length k2, .slice p3 d.Ports.length k3] 47] := h
  refine qb (qB (zp2 rfl (zl 0 0 h rfl (qaN qc [.tmp 18] _ ([y1.Name] : List ByteArray) h rfl rfl rfl rfl rfl rfl rfl rfl rfl ⟨rfl, trivial⟩ rfl ?_))))
  intro w5 p6 S2 h
  obtain ⟨x2, hx1, hF⟩ := qd hF
  obtain ⟨g1, hx1⟩ := qbm hx1
  refine qeC qc 2 h rfl (h.sl 0 rfl).1 (h.sl 0 rfl).2 rfl rfl rfl rfl rfl rfl rfl rfl rfl g1 hx1 rfl ?_
  intro w6 p7 k6 S3 h
  refine zp1 rfl (zNER (zp2 rfl (qb ?_)))
  replace h := h.pick [2, 3] rfl
  exact qy m1 [(1, _), (3, _), (4, _), (10, _), (11, _), (12, _)] (Nat.lt_succ_self m1) ⟨rfl, rfl, rfl, rfl, rfl, rfl, trivial⟩ ⟨_, _, _, _, _, _, hF, rfl, h⟩
 refine qF rfl ?_
 obtain rfl := qj hF; replace hF := hK1
 refine zSSR (zp1 rfl (zl 1 2 h rfl (zp2 rfl (qb ?_))))
 replace h := h.nil (α := ByteArray)
 obtain ⟨o2, hF, hK2⟩ := qd hF
 refine qA (qW [(1, _), (3, _), (4, _), (23, _), (24, _), (25, _)] ⟨rfl, rfl, rfl, rfl, rfl, rfl, trivial⟩ ?_)
 refine qG (fun m e w' => ∃ (S4 : Nat → Prop) (p8 : Option Addr) (ln2 : Nat) (k7 : Nat) (x3 : (List ByteArray)) (i2 : Int), qaT d m x3 i2 = some o2 ∧ e = [(1, .pointer (some ⟨bb1, 0, none⟩)), (3, .slice p4 x1.length k4), (4, .slice p8 ln2 k7), (23, .slice p3 d.Ports.length k3), (24, .int .i64 (d.Ports.length : Int)), (25, .int .i64 i2)] ∧ SH w w' [Ch.own S4 (x3 : List ByteArray) [.slice p8 ln2 k7], Ch.own S1 (x1 : List ByteArray) [.slice p4 x1.length k4], Ch.box bb1 [.slice p1 d.Instances.length k1, .slice p2 d.Nets.length k2, .slice p3 d.Ports.length k3] 47]) n ⟨_, _, _, _, _, _, hF, rfl, h⟩ ?_
 rintro m2 e2 w7 ⟨S4, p8, ln2, k7, x3, i2, hF, rfl, h⟩
 obtain rfl := (h.sl 0 rfl).2
 rcases m2 with _ | m2
 ·rw [qaT] at hF
  cases hF
 rw [qaT] at hF
 refine zSR (zp1 rfl (zNS ?_))
 refine qp rfl hF ?_ ?_ <;> intro hF
 ·refine zKSBSR ?_
  obtain ⟨y2, hy2, hF⟩ := qd hF
  have he2 := qg hy2
  obtain ⟨b2, o_2, q2, cs3, hp2, hq2, -, hr2, hc4⟩ := s3.at hy2
  obtain rfl := qbz hr2
  refine zxe hp2 hq2 he2 rfl (zc 0 (hc4.below h.below) rfl (qT qc h rfl rfl rfl ?_))
  intro w8 bb3 h
  refine zs 0 h rfl ?_
  intro w9 h
  replace h : SH _ _ [Ch.box bb3 [.string y2.Name, .int .i64 y2.Dir, .int .i64 y2.Net] 187, Ch.own S4 (x3 : List ByteArray) [.slice p8 x3.length k7], Ch.own S1 (x1 : List ByteArray) [.slice p4 x1.length k4], Ch.box bb1 [.slice p1 d.Instances.length k1, .slice p2 d.Nets.length k2, .slice p3 d.Ports.length k3] 47] := h
  refine qb (qB (zp2 rfl (zl 0 0 h rfl (qaN qc [.tmp 31] _ ([y2.Name] : List ByteArray) h rfl rfl rfl rfl rfl rfl rfl rfl rfl ⟨rfl, trivial⟩ rfl ?_))))
  intro w10 p9 S5 h
  obtain ⟨x4, hx2, hF⟩ := qd hF
  obtain ⟨g2, hx2⟩ := qbm hx2
  refine qeC qc 2 h rfl (h.sl 0 rfl).1 (h.sl 0 rfl).2 rfl rfl rfl rfl rfl rfl rfl rfl rfl g2 hx2 rfl ?_
  intro w11 p10 k8 S6 h
  refine zp1 rfl (zNER (zp2 rfl (qb ?_)))
  replace h := h.pick [2, 3, 4] rfl
  exact qy m2 [(1, _), (3, _), (4, _), (23, _), (24, _), (25, _)] (Nat.lt_succ_self m2) ⟨rfl, rfl, rfl, rfl, rfl, rfl, trivial⟩ ⟨_, _, _, _, _, _, hF, rfl, h⟩
 refine qF rfl ?_
 obtain rfl := qj hF; replace hF := hK2
 refine zSR (zp4 rfl ?_)
 by_cases hc5 : (decide ((x1.length : Int) ≤ 14)) = true
 ·replace hF := bifT hc5 hF
  refine qC hc5 (t := 38) rfl (qa rfl (zp1 rfl (qa rfl (zl 2 1 h rfl (qa rfl (zp1 rfl (qa rfl (zp3 rfl ?_))))))))
  by_cases hc6 : (decide ((d.Nets.length : Int) ≤ 30)) = true
  ·replace hF := bifT hc6 hF
   refine qC hc6 (t := 44) rfl (qa rfl (zp1 rfl (qa rfl (zp1 rfl (qa rfl (zp3 rfl ?_))))))
   by_cases hc7 : (decide ((x3.length : Int) ≤ 8)) = true
   ·replace hF := bifT hc7 hF
    refine qC hc7 (t := 49) rfl (qa rfl (zp1 rfl (qa rfl ?_)))
    obtain ⟨r1, hr3, hF⟩ := qd hF
    refine qm r1 h call205 (qfe (h.own 1 rfl) hr3) rfl rfl rfl rfl ?_
    intro w12 h
    refine zp2 rfl ?_
    by_cases hc8 : r1 = true
    ·replace hF := bifT hc8 hF
     refine qC hc8 (t := 53) rfl (qa rfl (zp1 rfl (qa rfl (zl 2 1 h rfl (qa rfl ?_)))))
     obtain ⟨r2, hr4, hF⟩ := qd hF
     refine qm r2 h call205 (qfe ⟨_, _, rfl, (h.oldS s2)⟩ hr4) rfl rfl rfl rfl ?_
     intro w13 h
     refine zp2 rfl ?_
     by_cases hc9 : r2 = true
     ·replace hF := bifT hc9 hF
      refine qC hc9 (t := 58) rfl (qa rfl (zp1 rfl (qa rfl ?_)))
      obtain ⟨r3, hr5, hF⟩ := qd hF
      refine qm r3 h call205 (qfe (h.own 0 rfl) hr5) rfl rfl rfl rfl ?_
      intro w14 h
      exact zp2 rfl (qb (qx qc h hF ⟨rfl, trivial⟩))
     replace hc9 := zb hc9
     replace hF := bifF hc9 hF
     exact qD hc9 (t := 58) rfl (zn2 rfl (zp2 rfl (qb (qx qc h hF ⟨rfl, trivial⟩))))
    replace hc8 := zb hc8
    replace hF := bifF hc8 hF
    exact qD hc8 (t := 53) rfl (zn3 rfl (zp2 rfl (zn2 rfl (zp2 rfl (qb (qx qc h hF ⟨rfl, trivial⟩))))))
   replace hc7 := zb hc7
   replace hF := bifF hc7 hF
   refine qD hc7 (t := 49) rfl (zn2 rfl (zp2 rfl (zn3 rfl (zp2 rfl (zn2 rfl ?_)))))
   exact zp2 rfl (qb (qx qc h hF ⟨rfl, trivial⟩))
  replace hc6 := zb hc6
  replace hF := bifF hc6 hF
  refine qD hc6 (t := 44) rfl (zn3 rfl (zp2 rfl (zn2 rfl (zp2 rfl (zn2 rfl ?_)))))
  exact zn1 rfl (zp2 rfl (zn2 rfl (zp2 rfl (qb (qx qc h hF ⟨rfl, trivial⟩)))))
 replace hc5 := zb hc5
 replace hF := bifF hc5 hF
 refine qD hc5 (t := 38) rfl (zn4 rfl (zp2 rfl (zn3 rfl (zp2 rfl ?_))))
 refine zn2 rfl (zp2 rfl (zn3 rfl (zp2 rfl (zn2 rfl (zp1 rfl ?_)))))
 exact zp1 rfl (qb (qx qc h hF ⟨rfl, trivial⟩))

def qeA (_ : Nat) (list : (List qE)) : Option Int :=
 some (list.length : Int)

theorem qiY {n : Nat} {w : World} {list : (List qE)} {cs1 : List Value} (ha1 : GoT.R w (old w) list cs1) {r : Int} (hF : qeA n list = some r) : RetV Tryz.prog 206 [GoT.v (List qE) cs1] w r := by
 obtain ⟨p1, k1, rfl, s1⟩ := ha1
 refine qf Tryz.func206 rfl (m := 5) rfl rfl (fun h => ?_)
 rw [qeA] at hF
 exact zSR (zp1 rfl (zNSR (zp3 rfl (qb (qar qc h hF ⟨rfl, trivial⟩)))))

def qfs (_ : Nat) (list : (List ByteArray)) : Option Int :=
 some (list.length : Int)

theorem qjF {n : Nat} {w : World} {list : (List ByteArray)} {cs1 : List Value} (ha1 : GoT.R w (old w) list cs1) {r : Int} (hF : qfs n list = some r) : RetV Tryz.prog 208 [GoT.v (List ByteArray) cs1] w r := by
 obtain ⟨p1, k1, rfl, s1⟩ := ha1
 refine qf Tryz.func208 rfl (m := 5) rfl rfl (fun h => ?_)
 rw [qfs] at hF
 exact zSR (zp1 rfl (zNSR (zp3 rfl (qb (qar qc h hF ⟨rfl, trivial⟩)))))

def qc3 (n : Nat) (d : ql) (net : Int) : Option Bool :=
 (qfs n d.Nets).bind fun r1 =>
 (qaY n net 0 (W64 (r1 - 1))).bind fun r2 =>
 some r2

theorem qf0 {n : Nat} {w : World} {d : ql} {net : Int} {cs1 : List Value} (ha1 : GoT.R w (old w) d cs1) {r : Bool} (hF : qc3 n d net = some r) : RetV Tryz.prog 182 [GoT.v ql cs1, .int .i64 net] w r := by
 obtain ⟨p1, k1, p2, k2, p3, k3, rfl, s1, s2, s3⟩ := qaz ha1
 refine qf Tryz.func182 rfl (m := 11) rfl rfl (fun h => ?_)
 rw [qc3] at hF
 refine zSR (qP h rfl rfl ?_)
 intro w1 bb1 h
 refine zp1 rfl (zNSR (zp2 rfl (zl 0 1 h rfl ?_)))
 obtain ⟨r1, hr1, hF⟩ := qd hF
 refine qN r1 h call208 (qjF ⟨_, _, rfl, (h.oldS s2)⟩ hr1) rfl rfl rfl rfl ?_
 intro w2 h
 refine zp1 rfl ?_
 obtain ⟨r2, hr2, hF⟩ := qd hF
 refine qm r2 h call86 (qaF hr2) rfl rfl rfl rfl ?_
 intro w3 h
 exact zp1 rfl (qb (qx qc h hF ⟨rfl, trivial⟩))

def qcy (n : Nat) (net : Int) (v0 : ql) : Option Bool :=
 (qc3 n v0 net).bind fun r1 =>
 some (!r1)

theorem qim {n : Nat} {w : World} {net : Int} {v0 : ql} {p1 : Option Addr} (ha1 : GoT.R w (old w) (some v0) [.pointer p1]) {r : Bool} (hF : qcy n net v0 = some r) : RetV Tryz.prog 207 [.int .i64 net, .pointer p1] w r := by
 obtain ⟨b1, o_1, cs1, rfl, -, hr1, hc1⟩ := PtR.get ha1 rfl
 obtain ⟨p2, k1, p3, k2, p4, k3, rfl, s1, s2, s3⟩ := qaz hr1
 refine qf Tryz.func207 rfl (m := 8) rfl rfl (fun h => ?_)
 rw [qcy] at hF
 refine zSR (zp1 rfl (zNSR (zc 0 (hc1.below h.below) rfl (zp1 rfl ?_))))
 obtain ⟨r1, hr2, hF⟩ := qd hF
 refine qm r1 h call182 (qf0 (qbf v0 (h.oldS s1) (h.oldS s2) (h.oldS s3)) hr2) rfl rfl rfl rfl ?_
 intro w1 h
 exact zp2 rfl (qb (qx qc h hF ⟨rfl, trivial⟩))

def qM (s : (List Int)) (f_0 : ql) : Nat → Int → Option (Flow Int Int)
 | 0, _ => none
 | n + 1, i1 =>
  bif decide (i1 < (s.length : Int)) then
   (idx s i1).bind fun y1 =>
   (qcy n y1 f_0).bind fun r1 =>
   bif r1 then
    some (.ret i1)
   else
    qM s f_0 n (W64 (i1 + 1))
  else
   some (.nxt i1)

def qaH (n : Nat) (s : (List Int)) (f_0 : ql) : Option Int :=
 (qM s f_0 n 0).bind fun o => match o with
 | .ret r => some r
 | .nxt _ =>
  some (-1)

theorem qel {n : Nat} {w : World} {s : (List Int)} {f_0 : ql} {cs1 : List Value} (ha1 : GoT.R w (old w) s cs1) {p2 : Option Addr} (ha2 : GoT.R w (old w) (some f_0) [.pointer p2]) {r : Int} (hF : qaH n s f_0 = some r) : RetV Tryz.prog 190 [GoT.v (List Int) cs1, .func (.func 207) #[] #[.pointer p2]] w r := by
 obtain ⟨p1, k1, rfl, s1⟩ := ha1
 obtain ⟨b1, o_1, cs2, rfl, -, hr1, hc1⟩ := PtR.get ha2 rfl
 obtain ⟨p3, k2, p4, k3, p5, k4, rfl, s2, s3, s4⟩ := qaz hr1
 refine qf Tryz.func190 rfl (m := 19) rfl rfl (fun h => ?_)
 rw [qaH] at hF
 refine zSR (zp1 rfl (zNSSR (zp3 rfl (qb ?_))))
 obtain ⟨o1, hF, hK1⟩ := qd hF
 refine qA (qW [(0, _), (1, _), (7, _), (8, _)] ⟨rfl, rfl, rfl, rfl, trivial⟩ ?_)
 refine qG (fun m e w' => ∃ (i1 : Int), qM s f_0 m i1 = some o1 ∧ e = [(0, .slice p1 s.length k1), (1, .func (.func 207) #[] #[.pointer (some ⟨b1, o_1, none⟩)]), (7, .int .i64 (s.length : Int)), (8, .int .i64 i1)] ∧ SH w w' []) n ⟨_, hF, rfl, h⟩ ?_
 rintro m1 e1 w1 ⟨i1, hF, rfl, h⟩
 rcases m1 with _ | m1
 ·rw [qM] at hF
  cases hF
 rw [qM] at hF
 refine zSR (zp1 rfl (zNS ?_))
 refine qp rfl hF ?_ ?_ <;> intro hF
 ·refine zKSBSR (zp2 rfl (zNSR (zp2 rfl ?_)))
  refine zp1 rfl ?_
  obtain ⟨y1, hy1, hF⟩ := qd hF
  have he1 := qg hy1
  obtain ⟨b2, o_2, q1, cs3, hp1, hq1, -, hr2, hc3⟩ := s1.at hy1
  obtain rfl := hr2
  refine zxe hp1 hq1 he1 rfl (zc 0 (hc3.below h.below) rfl ?_)
  obtain ⟨r1, hr3, hF⟩ := qd hF
  refine qm r1 h call207 (qim (h.old ha2) hr3) rfl rfl rfl rfl ?_
  intro w2 h
  refine qb ?_
  refine qp rfl hF ?_ ?_ <;> intro hF
  ·refine zSR (zp2 rfl (qb ?_))
   obtain rfl := qj hF; replace hF := hK1
   exact qar qc h hF ⟨rfl, trivial⟩
  exact zKER (zp2 rfl (qb (qy m1 [(0, _), (1, _), (7, _), (8, _)] (Nat.lt_succ_self m1) ⟨rfl, rfl, rfl, rfl, trivial⟩ ⟨_, hF, rfl, h⟩)))
 refine qF rfl ?_
 obtain rfl := qj hF; replace hF := hK1
 exact zSR (zp1 rfl (qb (qar qc h hF ⟨rfl, trivial⟩)))

def qay (n : Nat) (s : (List Int)) (f_0 : ql) : Option Bool :=
 (qaH n s f_0).bind fun r1 =>
 some (decide (r1 ≥ 0))

theorem qd2 {n : Nat} {w : World} {s : (List Int)} {f_0 : ql} {cs1 : List Value} (ha1 : GoT.R w (old w) s cs1) {p2 : Option Addr} (ha2 : GoT.R w (old w) (some f_0) [.pointer p2]) {r : Bool} (hF : qay n s f_0 = some r) : RetV Tryz.prog 155 [GoT.v (List Int) cs1, .func (.func 207) #[] #[.pointer p2]] w r := by
 obtain ⟨p1, k1, rfl, s1⟩ := ha1
 obtain ⟨b1, o_1, cs2, rfl, -, hr1, hc1⟩ := PtR.get ha2 rfl
 obtain ⟨p3, k2, p4, k3, p5, k4, rfl, s2, s3, s4⟩ := qaz hr1
 refine qf Tryz.func155 rfl (m := 9) rfl rfl (fun h => ?_)
 rw [qay] at hF
 refine zSR (zp1 rfl (zNSR (zp2 rfl ?_)))
 obtain ⟨r1, hr2, hF⟩ := qd hF
 refine qN r1 h call190 (qel ⟨_, _, rfl, (h.oldS s1)⟩ (h.old ha2) hr2) rfl rfl rfl rfl ?_
 intro w1 h
 exact zp2 rfl (qb (qx qc h hF ⟨rfl, trivial⟩))

def qcZ (n : Nat) (d : ql) (l : qw) (x : qr) : Option Bool :=
 (qeA n l.Cells).bind fun r1 =>
 (qaY n x.Cell 0 (W64 (r1 - 1))).bind fun r2 =>
 bif r2 then
  (idx l.Cells x.Cell).bind fun y1 =>
  bif ((x.Nets.length : Int) == (y1.Pins.length : Int)) then
   (qay n x.Nets d).bind fun r3 =>
   some (!r3)
  else
   some false
 else
  some false

theorem qiK {n : Nat} {w : World} {d : ql} {l : qw} {x : qr} {cs1 : List Value} (ha1 : GoT.R w (old w) d cs1) {cs2 : List Value} (ha2 : GoT.R w (old w) l cs2) {cs3 : List Value} (ha3 : GoT.R w (old w) x cs3) {r : Bool} (hF : qcZ n d l x = some r) : RetV Tryz.prog 181 [GoT.v ql cs1, GoT.v qw cs2, GoT.v qr cs3] w r := by
 obtain ⟨p1, k1, p2, k2, p3, k3, rfl, s1, s2, s3⟩ := qaz ha1
 obtain ⟨p4, k4, rfl, s4⟩ := qbB ha2
 obtain ⟨p5, k5, rfl, s5⟩ := qab ha3
 refine qf Tryz.func181 rfl (m := 35) rfl rfl (fun h => ?_)
 rw [qcZ] at hF
 refine zSR (qP h rfl rfl ?_)
 intro w1 bb1 h
 refine qP h rfl rfl ?_
 intro w2 bb2 h
 refine qP h rfl rfl ?_
 intro w3 bb3 h
 refine zp1 rfl (zNS ?_)
 refine qb3 rfl (by kernel_rfl) ?_
 refine zd1 rfl ?_
 refine zdl 0 1 h rfl ?_
 refine zd1 rfl ?_
 refine zdl 1 0 h rfl ?_
 obtain ⟨r1, hr1, hF⟩ := qd hF
 refine qb7 r1 (vsI _) call206 (fun _ hb => qiY ⟨_, _, rfl, ((h.ext hb).oldS s4)⟩ hr1) rfl rfl rfl rfl ?_
 refine zd1 rfl ?_
 obtain ⟨r2, hr2, hF⟩ := qd hF
 refine qb7 r2 (vsB _) call86 (fun _ hb => qaF  hr2) rfl rfl rfl rfl ?_
 refine zd1 rfl ?_
 by_cases hc1 : r2 = true
 ·replace hF := bifT hc1 hF
  refine qch hc1 (t := 14) rfl (qh rfl (zd1 rfl (qh rfl ?_)))
  refine zdl 0 2 h rfl ?_
  refine qh rfl (zd1 rfl (qh rfl (zd1 rfl (qh rfl ?_))))
  refine zdl 1 0 h rfl ?_
  refine qh rfl (zd1 rfl (qh rfl ?_))
  refine zdl 0 1 h rfl ?_
  refine qh rfl ?_
  obtain ⟨y1, hy1, hF⟩ := qd hF
  have he1 := qg hy1
  obtain ⟨b1, o_1, q1, cs4, hp1, hq1, -, hr3, hc2⟩ := s4.at hy1
  obtain ⟨p6, k6, p7, k7, p8, k8, rfl, s6, s7, s8⟩ := qaa hr3
  refine zdxe hp1 hq1 he1 rfl ?_
  refine qh rfl (zd1 rfl (qh rfl ?_))
  refine zdc 2 (hc2.below h.below) rfl ?_
  refine qh rfl (zd1 rfl (qh rfl (zd3 rfl ?_)))
  by_cases hc3 : ((x.Nets.length : Int) == (y1.Pins.length : Int)) = true
  ·replace hF := bifT hc3 hF
   refine qch hc3 (t := 28) rfl (qh rfl (zd1 rfl (qh rfl ?_)))
   refine zdl 0 2 h rfl ?_
   refine qh rfl (zd1 rfl (qh rfl ?_))
   obtain ⟨r3, hr4, hF⟩ := qd hF
   refine qb7 r3 (vsB _) call155 (fun _ hb => qd2 ⟨_, _, rfl, ((h.ext hb).oldS s5)⟩ (qh8 (x := d) 2 (h.ext hb) rfl ((h.ext hb).old ha1)) hr4) rfl rfl rfl rfl ?_
   refine qh rfl (zd3 rfl ?_)
   refine qaR (fun w4 hb => ?_)
   replace h := h.ext hb
   clear hb
   exact qx qc h hF ⟨rfl, trivial⟩
  replace hc3 := zb hc3
  replace hF := bifF hc3 hF
  refine qci hc3 (t := 28) rfl (qi rfl rfl rfl (qi rfl rfl rfl (qi rfl rfl rfl (qi rfl rfl rfl (qi rfl rfl rfl (zd2 rfl ?_))))))
  refine qaR (fun w5 hb => ?_)
  replace h := h.ext hb
  clear hb
  exact qx qc h hF ⟨rfl, trivial⟩
 replace hc1 := zb hc1
 replace hF := bifF hc1 hF
 refine qci hc1 (t := 14) rfl (qi rfl rfl rfl (qi rfl rfl rfl (qi rfl rfl rfl (qi rfl rfl rfl (qi rfl rfl rfl (qi rfl rfl rfl (qi rfl rfl rfl (qi rfl rfl rfl (qi rfl rfl rfl (qi rfl rfl rfl (qi rfl rfl rfl ?_)))))))))))
 refine qi rfl rfl rfl (zd2 rfl (qi rfl rfl rfl (qi rfl rfl rfl (qi rfl rfl rfl (qi rfl rfl rfl (qi rfl rfl rfl (zd2 rfl ?_)))))))
 refine qaR (fun w6 hb => ?_)
 replace h := h.ext hb
 clear hb
 exact qx qc h hF ⟨rfl, trivial⟩

def qgG (_ : Nat) (a_n : Int) : Option Bool :=
 some (a_n != 1)

theorem qkI {n : Nat} {w : World} {a_n : Int}  {r : Bool} (hF : qgG n a_n = some r) : RetV Tryz.prog 184 [.int .i64 a_n] w r := by
 refine qf Tryz.func184 rfl (m := 5) rfl rfl (fun h => ?_)
 rw [qgG] at hF
 exact zSR (zp1 rfl (zNSR (zp3 rfl (qb (qx qc h hF ⟨rfl, trivial⟩)))))

def qY (s : (List Int)) : Nat → Int → Option (Flow Int Int)
 | 0, _ => none
 | n + 1, i1 =>
  bif decide (i1 < (s.length : Int)) then
   (idx s i1).bind fun y1 =>
   (qgG n y1).bind fun r1 =>
   bif r1 then
    some (.ret i1)
   else
    qY s n (W64 (i1 + 1))
  else
   some (.nxt i1)

def qbw (n : Nat) (s : (List Int)) : Option Int :=
 (qY s n 0).bind fun o => match o with
 | .ret r => some r
 | .nxt _ =>
  some (-1)

theorem qfT {n : Nat} {w : World} {s : (List Int)} {cs1 : List Value} (ha1 : GoT.R w (old w) s cs1) {r : Int} (hF : qbw n s = some r) : RetV Tryz.prog 209 [GoT.v (List Int) cs1, .func (.func 184) #[] #[]] w r := by
 obtain ⟨p1, k1, rfl, s1⟩ := ha1
 refine qf Tryz.func209 rfl (m := 19) rfl rfl (fun h => ?_)
 rw [qbw] at hF
 refine zSR (zp1 rfl (zNSSR (zp3 rfl (qb ?_))))
 obtain ⟨o1, hF, hK1⟩ := qd hF
 refine qA (qW [(0, _), (1, _), (7, _), (8, _)] ⟨rfl, rfl, rfl, rfl, trivial⟩ ?_)
 refine qG (fun m e w' => ∃ (i1 : Int), qY s m i1 = some o1 ∧ e = [(0, .slice p1 s.length k1), (1, .func (.func 184) #[] #[]), (7, .int .i64 (s.length : Int)), (8, .int .i64 i1)] ∧ SH w w' []) n ⟨_, hF, rfl, h⟩ ?_
 rintro m1 e1 w1 ⟨i1, hF, rfl, h⟩
 rcases m1 with _ | m1
 ·rw [qY] at hF
  cases hF
 rw [qY] at hF
 refine zSR (zp1 rfl (zNS ?_))
 refine qp rfl hF ?_ ?_ <;> intro hF
 ·refine zKSBSR (zp2 rfl (zNSR (zp2 rfl ?_)))
  refine zp1 rfl ?_
  obtain ⟨y1, hy1, hF⟩ := qd hF
  have he1 := qg hy1
  obtain ⟨b1, o_1, q1, cs2, hp1, hq1, -, hr1, hc2⟩ := s1.at hy1
  obtain rfl := hr1
  refine zxe hp1 hq1 he1 rfl (zc 0 (hc2.below h.below) rfl ?_)
  obtain ⟨r1, hr2, hF⟩ := qd hF
  refine qm r1 h call184 (qkI hr2) rfl rfl rfl rfl ?_
  intro w2 h
  refine qb ?_
  refine qp rfl hF ?_ ?_ <;> intro hF
  ·refine zSR (zp2 rfl (qb ?_))
   obtain rfl := qj hF; replace hF := hK1
   exact qar qc h hF ⟨rfl, trivial⟩
  exact zKER (zp2 rfl (qb (qy m1 [(0, _), (1, _), (7, _), (8, _)] (Nat.lt_succ_self m1) ⟨rfl, rfl, rfl, rfl, trivial⟩ ⟨_, hF, rfl, h⟩)))
 refine qF rfl ?_
 obtain rfl := qj hF; replace hF := hK1
 exact zSR (zp1 rfl (qb (qar qc h hF ⟨rfl, trivial⟩)))

def qbk (n : Nat) (s : (List Int)) : Option Bool :=
 (qbw n s).bind fun r1 =>
 some (decide (r1 ≥ 0))

theorem qfp {n : Nat} {w : World} {s : (List Int)} {cs1 : List Value} (ha1 : GoT.R w (old w) s cs1) {r : Bool} (hF : qbk n s = some r) : RetV Tryz.prog 183 [GoT.v (List Int) cs1, .func (.func 184) #[] #[]] w r := by
 obtain ⟨p1, k1, rfl, s1⟩ := ha1
 refine qf Tryz.func183 rfl (m := 9) rfl rfl (fun h => ?_)
 rw [qbk] at hF
 refine zSR (zp1 rfl (zNSR (zp2 rfl ?_)))
 obtain ⟨r1, hr1, hF⟩ := qd hF
 refine qN r1 h call209 (qfT ⟨_, _, rfl, (h.oldS s1)⟩ hr1) rfl rfl rfl rfl ?_
 intro w1 h
 exact zp2 rfl (qb (qx qc h hF ⟨rfl, trivial⟩))

def qbJ (a_1 : ql) : Nat → (List Int) → Int → Option (Flow Bool ((List Int) × Int))
 | 0, _, _ => none
 | n + 1, x3, i2 =>
  bif decide (i2 < (a_1.Ports.length : Int)) then
   (idx a_1.Ports i2).bind fun y5 =>
   (
    bif (y5.Dir != 1) then
     bif (y5.Dir != 2) then
      some true
     else
      (qc3 n a_1 y5.Net).bind fun r2 =>
      some (!r2)
    else
     (qc3 n a_1 y5.Net).bind fun r3 =>
     some (!r3)).bind fun b7 =>
   bif b7 then
    some (.ret false)
   else
    bif (y5.Dir == 1) then
     (idx x3 y5.Net).bind fun y6 =>
     (idx x3 y5.Net).bind fun _ =>
     qbJ a_1 n (setS x3 y5.Net (W64 (y6 + 1))) (W64 (i2 + 1))
    else
     qbJ a_1 n x3 (W64 (i2 + 1))
  else
   some (.nxt (x3, i2))

def qck (a_0 : qw) (a_1 : ql) : Nat → (List Int) → Int → Option (Flow Bool ((List Int) × Int))
 | 0, _, _ => none
 | n + 1, x2, i1 =>
  bif decide (i1 < (a_1.Instances.length : Int)) then
   (idx a_1.Instances i1).bind fun y1 =>
   (qcZ n a_1 a_0 y1).bind fun r1 =>
   bif (!r1) then
    some (.ret false)
   else
    (idx y1.Nets (W64 ((y1.Nets.length : Int) - 1))).bind fun y2 =>
    (idx x2 y2).bind fun y3 =>
    (idx x2 y2).bind fun _ =>
    qck a_0 a_1 n (setS x2 y2 (W64 (y3 + 1))) (W64 (i1 + 1))
  else
   some (.nxt (x2, i1))

def qgw (n : Nat) (a_0 : qw) (a_1 : ql) : Option Bool :=
 (
  (qf7 n a_0).bind fun r5 =>
  bif (!r5) then
   some true
  else
   (qdP n a_1).bind fun r6 =>
   some (!r6)).bind fun b1 =>
 bif b1 then
  some false
 else
  (mkS (a_1.Nets.length : Int) (0 : Int)).bind fun x1 =>
  (qck a_0 a_1 n x1 0).bind fun o => match o with
  | .ret r => some r
  | .nxt (x2, _) =>
   (qbJ a_1 n x2 0).bind fun o => match o with
   | .ret r => some r
   | .nxt (x3, _) =>
    (qbk n x3).bind fun r4 =>
    some (!r4)

theorem qk9 {n : Nat} {w : World} {a_0 : qw} {a_1 : ql} {cs1 : List Value} (ha1 : GoT.R w (old w) a_0 cs1) {cs2 : List Value} (ha2 : GoT.R w (old w) a_1 cs2) {r : Bool} (hF : qgw n a_0 a_1 = some r) : RetV Tryz.prog 147 [GoT.v qw cs1, GoT.v ql cs2] w r := by
 obtain ⟨p1, k1, rfl, s1⟩ := qbB ha1
 obtain ⟨p2, k2, p3, k3, p4, k4, rfl, s2, s3, s4⟩ := qaz ha2
 refine qf Tryz.func147 rfl (m := 84) rfl rfl (fun h => ?_)
 rw [qgw] at hF
 refine zSR (qP h rfl rfl ?_)
 intro w1 bb1 h
 refine qP h rfl rfl ?_
 intro w2 bb2 h
 refine zp1 rfl (zNSS ?_)
 obtain ⟨KF2, hKF2, o4, hF, hK4⟩ := bindE hF
 refine qdR (fun e w' => ∃ (b1 : Bool), KF2 b1 = some r ∧ e = [(2, .pointer (some ⟨bb1, 0, none⟩)), (3, .pointer (some ⟨bb2, 0, none⟩)), (17, .bool b1)] ∧ SH w w' [Ch.box bb2 [.slice p2 a_1.Instances.length k2, .slice p3 a_1.Nets.length k3, .slice p4 a_1.Ports.length k4] 47, Ch.box bb1 [.slice p1 a_0.Cells.length k1] 43]) ?_ ?_
 ·refine qB (zl 1 0 h rfl ?_)
  obtain ⟨r5, hr12, hF⟩ := qd hF
  refine qm r5 h call179 (qkX (h.old ha1) hr12) rfl rfl rfl rfl ?_
  intro w17 h
  refine zp2 rfl ?_
  by_cases hc16 : (!r5) = true
  ·replace hF := bifT hc16 hF
   refine qC hc16 (t := 13) rfl (zn3 rfl (zp1 rfl (qb ?_)))
   obtain rfl := qj hF
   exact qu [(2, _), (3, _), (17, _)] ⟨rfl, rfl, rfl, trivial⟩ ⟨_, hK4, rfl, h⟩
  replace hc16 := zb hc16
  replace hF := bifF hc16 hF
  refine qD hc16 (t := 13) rfl (qa rfl (zl 0 0 h rfl (qa rfl ?_)))
  obtain ⟨r6, hr13, hF⟩ := qd hF
  refine qm r6 h call180 (qjd (h.old ha2) hr13) rfl rfl rfl rfl ?_
  intro w18 h
  refine qa rfl (zp2 rfl (qb ?_))
  obtain rfl := qj hF
  exact qu [(2, _), (3, _), (17, _)] ⟨rfl, rfl, rfl, trivial⟩ ⟨_, hK4, rfl, h⟩
 rintro e4 w19 ⟨b1, hF, rfl, h⟩
 subst hKF2
 refine qp rfl hF ?_ ?_ <;> intro hF
 ·exact zSR (zp1 rfl (qb (qx qc h hF ⟨rfl, trivial⟩)))
 refine zKSR (zp1 rfl (zl 0 1 h rfl (zp1 rfl ?_)))
 obtain ⟨x1, hx1, hF⟩ := qd hF
 obtain ⟨g1, g2, hx1⟩ := qdH hx1
 refine qeJ qc Int h rfl rfl rfl rfl rfl rfl rfl rfl rfl g1 g2 hx1 rfl ?_
 intro w3 S1 p5 h
 refine zp1 rfl (zNSSR (zp1 rfl (zl 1 0 h rfl (zp2 rfl (qb ?_)))))
 obtain ⟨o1, hF, hK1⟩ := qd hF
 refine qA (qW [(2, _), (3, _), (5, _), (23, _), (24, _), (25, _)] ⟨rfl, rfl, rfl, rfl, rfl, rfl, trivial⟩ ?_)
 refine qG (fun m e w' => ∃ (x2 : (List Int)) (i1 : Int), qck a_0 a_1 m x2 i1 = some o1 ∧ e = [(2, .pointer (some ⟨bb1, 0, none⟩)), (3, .pointer (some ⟨bb2, 0, none⟩)), (5, .slice p5 x1.length x1.length), (23, .slice p2 a_1.Instances.length k2), (24, .int .i64 (a_1.Instances.length : Int)), (25, .int .i64 i1)] ∧ SH w w' [Ch.own S1 (x2 : List Int) [.slice p5 x1.length x1.length], Ch.box bb2 [.slice p2 a_1.Instances.length k2, .slice p3 a_1.Nets.length k3, .slice p4 a_1.Ports.length k4] 47, Ch.box bb1 [.slice p1 a_0.Cells.length k1] 43]) n ⟨_, _, hF, rfl, h⟩ ?_
 rintro m1 e1 w4 ⟨x2, i1, hF, rfl, h⟩
 rcases m1 with _ | m1
 ·rw [qck] at hF
  cases hF
 rw [qck] at hF
 refine zSR (zp1 rfl (zNS ?_))
 refine qp rfl hF ?_ ?_ <;> intro hF
 ·refine zKSBSR ?_
  obtain ⟨y1, hy1, hF⟩ := qd hF
  have he1 := qg hy1
  obtain ⟨b2, o_1, q1, cs3, hp1, hq1, -, hr1, hc3⟩ := s2.at hy1
  obtain ⟨p6, k5, rfl, s5⟩ := qab hr1
  refine zxe hp1 hq1 he1 rfl (zc 0 (hc3.below h.below) rfl (qT qc h rfl rfl rfl ?_))
  intro w5 bb3 h
  refine zs 0 h rfl ?_
  intro w6 h
  refine zNSSR (zl 2 0 h rfl (zl 3 0 h rfl (zl 0 0 h rfl ?_)))
  obtain ⟨r1, hr2, hF⟩ := qd hF
  refine qm r1 h call181 (qiK (h.old ha2) (h.old ha1) (qfI y1 (h.oldS s5)) hr2) rfl rfl rfl rfl ?_
  intro w7 h
  refine zp1 rfl (qb ?_)
  refine qp rfl hF ?_ ?_ <;> intro hF
  ·refine zSR (zp1 rfl (qb ?_))
   obtain rfl := qj hF; replace hF := hK1
   exact qx qc h hF ⟨rfl, trivial⟩
  refine qd1 (qB (zp2 rfl (zl 0 2 h rfl (zp1 rfl (zl 0 2 h rfl (zp2 rfl ?_))))))
  obtain ⟨y2, hy2, hF⟩ := qd hF
  have he2 := qg hy2
  obtain ⟨b3, o_2, q2, cs4, hp2, hq2, -, hr3, hc5⟩ := s5.at hy2
  obtain rfl := hr3
  refine zxe hp2 hq2 he2 rfl (zc 0 (hc5.below h.below) rfl ?_)
  obtain ⟨y3, hy3, hF⟩ := qd hF
  have he3 := qg hy3
  obtain ⟨b4, o_3, q3, cs5, hp3, hq3, -, hr4, hc6⟩ := (h.sl 1 rfl).1.at hy3
  obtain rfl := hr4
  refine zx hp3 hq3 ⟨he3.1, qa8 he3.2.1 (h.sl 1 rfl).2⟩ rfl (zc 0 hc6 rfl (zp1 rfl ?_))
  obtain ⟨y4, hy4, hF⟩ := qd hF
  have he4 := qg hy4
  obtain ⟨b5, o_4, q4, cs6, hp4, hq4, -, hr5, hc7⟩ := (h.sl 1 rfl).1.at hy4
  obtain rfl := hr5
  refine zx hp4 hq4 ⟨he4.1, qa8 he4.2.1 (h.sl 1 rfl).2⟩ rfl (qfQ qc 1 0 (W64 (y3 + 1)) h rfl hy4 hp4 hq4 rfl hc7 rfl rfl rfl rfl rfl rfl rfl ?_)
  intro w8 h
  refine zNER (zp2 rfl (qb ?_))
  replace h := h.pick [1, 2, 3] rfl
  exact qy m1 [(2, _), (3, _), (5, _), (23, _), (24, _), (25, _)] (Nat.lt_succ_self m1) ⟨rfl, rfl, rfl, rfl, rfl, rfl, trivial⟩ ⟨_, _, hF, rfl, h⟩
 refine qF rfl ?_
 obtain rfl := qj hF; replace hF := hK1
 refine zSSR (zp1 rfl (zl 1 2 h rfl (zp2 rfl (qb ?_))))
 obtain ⟨o2, hF, hK2⟩ := qd hF
 refine qA ?_
 replace h := h.pick [0, 1] rfl
 refine qW [(3, _), (5, _), (49, _), (50, _), (51, _)] ⟨rfl, rfl, rfl, rfl, rfl, trivial⟩ ?_
 refine qG (fun m e w' => ∃ (x3 : (List Int)) (i2 : Int), qbJ a_1 m x3 i2 = some o2 ∧ e = [(3, .pointer (some ⟨bb2, 0, none⟩)), (5, .slice p5 x1.length x1.length), (49, .slice p4 a_1.Ports.length k4), (50, .int .i64 (a_1.Ports.length : Int)), (51, .int .i64 i2)] ∧ SH w w' [Ch.own S1 (x3 : List Int) [.slice p5 x1.length x1.length], Ch.box bb2 [.slice p2 a_1.Instances.length k2, .slice p3 a_1.Nets.length k3, .slice p4 a_1.Ports.length k4] 47]) n ⟨_, _, hF, rfl, h⟩ ?_
 rintro m2 e2 w9 ⟨x3, i2, hF, rfl, h⟩
 rcases m2 with _ | m2
 ·rw [qbJ] at hF
  cases hF
 rw [qbJ] at hF
 refine zSR (zp1 rfl (zNS ?_))
 refine qp rfl hF ?_ ?_ <;> intro hF
 ·refine zKSBSR ?_
  obtain ⟨y5, hy5, hF⟩ := qd hF
  have he5 := qg hy5
  obtain ⟨b6, o_5, q5, cs7, hp5, hq5, -, hr6, hc9⟩ := s4.at hy5
  obtain rfl := qbz hr6
  refine zxe hp5 hq5 he5 rfl (zc 0 (hc9.below h.below) rfl (qT qc h rfl rfl rfl ?_))
  intro w10 bb4 h
  refine zs 0 h rfl ?_
  intro w11 h
  replace h : SH _ _ [Ch.box bb4 [.string y5.Name, .int .i64 y5.Dir, .int .i64 y5.Net] 187, Ch.own S1 (x3 : List Int) [.slice p5 x1.length x1.length], Ch.box bb2 [.slice p2 a_1.Instances.length k2, .slice p3 a_1.Nets.length k3, .slice p4 a_1.Ports.length k4] 47] := h
  refine zNSS ?_
  obtain ⟨KF1, hKF1, o3, hF, hK3⟩ := bindE hF
  refine qdR (fun e w' => ∃ (b7 : Bool), KF1 b7 = some o2 ∧ e = [(3, .pointer (some ⟨bb2, 0, none⟩)), (5, .slice p5 x1.length x1.length), (9, .pointer (some ⟨bb4, 0, none⟩)), (49, .slice p4 a_1.Ports.length k4), (50, .int .i64 (a_1.Ports.length : Int)), (51, .int .i64 i2), (69, .bool b7)] ∧ SH w w' [Ch.box bb4 [.string y5.Name, .int .i64 y5.Dir, .int .i64 y5.Net] 187, Ch.own S1 (x3 : List Int) [.slice p5 x1.length x1.length], Ch.box bb2 [.slice p2 a_1.Instances.length k2, .slice p3 a_1.Nets.length k3, .slice p4 a_1.Ports.length k4] 47]) ?_ ?_
  ·refine qB (zp1 rfl (zl 0 1 h rfl (zp2 rfl ?_)))
   by_cases hc14 : (y5.Dir != 1) = true
   ·replace hF := bifT hc14 hF
    refine qC hc14 (t := 58) rfl (qa rfl (zp1 rfl (qa rfl (zl 0 1 h rfl (qa rfl (zp3 rfl ?_))))))
    by_cases hc15 : (y5.Dir != 2) = true
    ·replace hF := bifT hc15 hF
     refine qC hc15 (t := 63) rfl (zn5 rfl (zp1 rfl (qb ?_)))
     obtain rfl := qj hF
     exact qu [(3, _), (5, _), (9, _), (49, _), (50, _), (51, _), (69, _)] ⟨rfl, rfl, rfl, rfl, rfl, rfl, rfl, trivial⟩ ⟨_, hK3, rfl, h⟩
    replace hc15 := zb hc15
    replace hF := bifF hc15 hF
    refine qD hc15 (t := 63) rfl (qa rfl (zl 2 0 h rfl (qa rfl (zp1 rfl (qa rfl (zl 0 2 h rfl (qa rfl ?_)))))))
    obtain ⟨r2, hr9, hF⟩ := qd hF
    refine qm r2 h call182 (qf0 (h.old ha2) hr9) rfl rfl rfl rfl ?_
    intro w13 h
    refine qa rfl (zp2 rfl (qb ?_))
    obtain rfl := qj hF
    exact qu [(3, _), (5, _), (9, _), (49, _), (50, _), (51, _), (69, _)] ⟨rfl, rfl, rfl, rfl, rfl, rfl, rfl, trivial⟩ ⟨_, hK3, rfl, h⟩
   replace hc14 := zb hc14
   replace hF := bifF hc14 hF
   refine qD hc14 (t := 58) rfl (zn3 rfl (zp2 rfl (qa rfl (zl 2 0 h rfl (qa rfl (zp1 rfl (qa rfl (zl 0 2 h rfl ?_))))))))
   refine qa rfl ?_
   obtain ⟨r3, hr10, hF⟩ := qd hF
   refine qm r3 h call182 (qf0 (h.old ha2) hr10) rfl rfl rfl rfl ?_
   intro w14 h
   refine qa rfl (zp2 rfl (qb ?_))
   obtain rfl := qj hF
   exact qu [(3, _), (5, _), (9, _), (49, _), (50, _), (51, _), (69, _)] ⟨rfl, rfl, rfl, rfl, rfl, rfl, rfl, trivial⟩ ⟨_, hK3, rfl, h⟩
  rintro e3 w15 ⟨b7, hF, rfl, h⟩
  subst hKF1
  refine qp rfl hF ?_ ?_ <;> intro hF
  ·refine zSR (zp1 rfl (qb ?_))
   obtain rfl := qj hF; replace hF := hK2
   exact qx qc h hF ⟨rfl, trivial⟩
  refine zKSR (zp1 rfl (zl 0 1 h rfl (zp1 rfl (qb ?_))))
  refine qp rfl hF ?_ ?_ <;> intro hF
  ·refine qB (zp2 rfl (zl 0 2 h rfl ?_))
   obtain ⟨y6, hy6, hF⟩ := qd hF
   have he6 := qg hy6
   obtain ⟨b8, o_6, q6, cs8, hp6, hq6, -, hr7, hc12⟩ := (h.sl 1 rfl).1.at hy6
   obtain rfl := hr7
   refine zx hp6 hq6 ⟨he6.1, qa8 he6.2.1 (h.sl 1 rfl).2⟩ rfl (zc 0 hc12 rfl (zp1 rfl ?_))
   obtain ⟨y7, hy7, hF⟩ := qd hF
   have he7 := qg hy7
   obtain ⟨b9, o_7, q7, cs9, hp7, hq7, -, hr8, hc13⟩ := (h.sl 1 rfl).1.at hy7
   obtain rfl := hr8
   refine zx hp7 hq7 ⟨he7.1, qa8 he7.2.1 (h.sl 1 rfl).2⟩ rfl (qfQ qc 1 0 (W64 (y6 + 1)) h rfl hy7 hp7 hq7 rfl hc13 rfl rfl rfl rfl rfl rfl rfl ?_)
   intro w12 h
   refine zNER (zp2 rfl (qb ?_))
   replace h := h.pick [1, 2] rfl
   exact qy m2 [(3, _), (5, _), (49, _), (50, _), (51, _)] (Nat.lt_succ_self m2) ⟨rfl, rfl, rfl, rfl, rfl, trivial⟩ ⟨_, _, hF, rfl, h⟩
  refine zKER (zp2 rfl (qb ?_))
  replace h := h.pick [1, 2] rfl
  exact qy m2 [(3, _), (5, _), (49, _), (50, _), (51, _)] (Nat.lt_succ_self m2) ⟨rfl, rfl, rfl, rfl, rfl, trivial⟩ ⟨_, _, hF, rfl, h⟩
 refine qF rfl ?_
 obtain rfl := qj hF; replace hF := hK2
 refine zSR (zp1 rfl ?_)
 obtain ⟨r4, hr11, hF⟩ := qd hF
 refine qm r4 h call183 (qfp (h.own 0 rfl) hr11) rfl rfl rfl rfl ?_
 intro w16 h
 exact zp2 rfl (qb (qx qc h hF ⟨rfl, trivial⟩))

def qbb (i1 : Int) (y1 : qr) : Nat → (List Tplace) → Int → Option ((List Tplace) × Int)
 | 0, _, _ => none
 | n + 1, x2, i2 =>
  bif decide (i2 < (y1.Nets.length : Int)) then
   (idx y1.Nets i2).bind fun y2 =>
   (appS x2 ([(⟨i1, i2, y2, (i2 == (W64 ((y1.Nets.length : Int) - 1)))⟩ : Tplace)] : List Tplace)).bind fun x3 =>
   qbb i1 y1 n x3 (W64 (i2 + 1))
  else
   some (x2, i2)

def qbc (d : ql) : Nat → (List Tplace) → Int → Option ((List Tplace) × Int)
 | 0, _, _ => none
 | n + 1, x4, i3 =>
  bif decide (i3 < (d.Ports.length : Int)) then
   (idx d.Ports i3).bind fun y3 =>
   (appS x4 ([(⟨(-1), i3, y3.Net, (y3.Dir == 1)⟩ : Tplace)] : List Tplace)).bind fun x5 =>
   qbc d n x5 (W64 (i3 + 1))
  else
   some (x4, i3)

def qbd (d : ql) : Nat → (List Tplace) → Int → Option ((List Tplace) × Int)
 | 0, _, _ => none
 | n + 1, x1, i1 =>
  bif decide (i1 < (d.Instances.length : Int)) then
   (idx d.Instances i1).bind fun y1 =>
   (qbb i1 y1 n x1 0).bind fun o => match o with
   | (x2, _) =>
    qbd d n x2 (W64 (i1 + 1))
  else
   some (x1, i1)

def qb5 (n : Nat) (d : ql) : Option (List Tplace) :=
 (qbd d n ([] : List Tplace) 0).bind fun o => match o with
 | (x1, _) =>
  (qbc d n x1 0).bind fun o => match o with
  | (x4, _) =>
   some x4

theorem qex {n : Nat} {w : World} {d : ql} {cs1 : List Value} (ha1 : GoT.R w (old w) d cs1) {r : (List Tplace)} (hF : qb5 n d = some r) : RetV Tryz.prog 148 [GoT.v ql cs1] w r := by
 obtain ⟨p1, k1, p2, k2, p3, k3, rfl, s1, s2, s3⟩ := qaz ha1
 refine qf Tryz.func148 rfl (m := 61) rfl rfl (fun h => ?_)
 rw [qb5] at hF
 refine zSR (qP h rfl rfl ?_)
 intro w1 bb1 h
 refine zp1 rfl (zNSR (zp1 rfl (zNSSR (zp1 rfl (zl 0 0 h rfl (zp1 rfl ?_))))))
 refine zp1 rfl (qb ?_)
 replace h := h.nil (α := Tplace)
 obtain ⟨o1, hF, hK1⟩ := qd hF
 refine qA (qW [(1, _), (3, _), (11, _), (12, _), (13, _)] ⟨rfl, rfl, rfl, rfl, rfl, trivial⟩ ?_)
 refine qG (fun m e w' => ∃ (S1 : Nat → Prop) (p4 : Option Addr) (ln1 : Nat) (k4 : Nat) (x1 : (List Tplace)) (i1 : Int), qbd d m x1 i1 = some o1 ∧ e = [(1, .pointer (some ⟨bb1, 0, none⟩)), (3, .slice p4 ln1 k4), (11, .slice p1 d.Instances.length k1), (12, .int .i64 (d.Instances.length : Int)), (13, .int .i64 i1)] ∧ SH w w' [Ch.own S1 (x1 : List Tplace) [.slice p4 ln1 k4], Ch.box bb1 [.slice p1 d.Instances.length k1, .slice p2 d.Nets.length k2, .slice p3 d.Ports.length k3] 47]) n ⟨_, _, _, _, _, _, hF, rfl, h⟩ ?_
 rintro m1 e1 w2 ⟨S1, p4, ln1, k4, x1, i1, hF, rfl, h⟩
 obtain rfl := (h.sl 0 rfl).2
 rcases m1 with _ | m1
 ·rw [qbd] at hF
  cases hF
 rw [qbd] at hF
 refine zSR (zp1 rfl (zNS ?_))
 refine qp rfl hF ?_ ?_ <;> intro hF
 ·refine zKSBSR (zp1 rfl ?_)
  obtain ⟨y1, hy1, hF⟩ := qd hF
  have he1 := qg hy1
  obtain ⟨b1, o_1, q1, cs2, hp1, hq1, -, hr1, hc2⟩ := s1.at hy1
  obtain ⟨p5, k5, rfl, s4⟩ := qab hr1
  refine zxe hp1 hq1 he1 rfl (zc 0 (hc2.below h.below) rfl (qT qc h rfl rfl rfl ?_))
  intro w3 bb2 h
  refine zp1 rfl (zs 0 h rfl ?_)
  intro w4 h
  replace h : SH _ _ [Ch.box bb2 [.string y1.Name, .int .i64 y1.Cell, .slice p5 y1.Nets.length k5] 185, Ch.own S1 (x1 : List Tplace) [.slice p4 x1.length k4], Ch.box bb1 [.slice p1 d.Instances.length k1, .slice p2 d.Nets.length k2, .slice p3 d.Ports.length k3] 47] := h
  refine zNSR (zp1 rfl (zl 0 2 h rfl (zp2 rfl (qb ?_))))
  obtain ⟨o2, hF, hK2⟩ := qd hF
  refine qA (qW [(1, _), (3, _), (4, _), (5, _), (11, _), (12, _), (13, _), (19, _), (20, _), (21, _)] ⟨rfl, rfl, rfl, rfl, rfl, rfl, rfl, rfl, rfl, rfl, trivial⟩ ?_)
  refine qG (fun m e w' => ∃ (S2 : Nat → Prop) (p6 : Option Addr) (ln2 : Nat) (k6 : Nat) (x2 : (List Tplace)) (i2 : Int), qbb i1 y1 m x2 i2 = some o2 ∧ e = [(1, .pointer (some ⟨bb1, 0, none⟩)), (3, .slice p6 ln2 k6), (4, .int .i64 i1), (5, .pointer (some ⟨bb2, 0, none⟩)), (11, .slice p1 d.Instances.length k1), (12, .int .i64 (d.Instances.length : Int)), (13, .int .i64 i1), (19, .slice p5 y1.Nets.length k5), (20, .int .i64 (y1.Nets.length : Int)), (21, .int .i64 i2)] ∧ SH w w' [Ch.box bb2 [.string y1.Name, .int .i64 y1.Cell, .slice p5 y1.Nets.length k5] 185, Ch.own S2 (x2 : List Tplace) [.slice p6 ln2 k6], Ch.box bb1 [.slice p1 d.Instances.length k1, .slice p2 d.Nets.length k2, .slice p3 d.Ports.length k3] 47]) m1 ⟨_, _, _, _, _, _, hF, rfl, h⟩ ?_
  rintro m2 e2 w5 ⟨S2, p6, ln2, k6, x2, i2, hF, rfl, h⟩
  obtain rfl := (h.sl 1 rfl).2
  rcases m2 with _ | m2
  ·rw [qbb] at hF
   cases hF
  rw [qbb] at hF
  refine zSR (zp1 rfl (zNS ?_))
  refine qp rfl hF ?_ ?_ <;> intro hF
  ·refine zKSBSR (zp1 rfl ?_)
   obtain ⟨y2, hy2, hF⟩ := qd hF
   have he2 := qg hy2
   obtain ⟨b2, o_2, q2, cs3, hp2, hq2, -, hr2, hc4⟩ := s4.at hy2
   obtain rfl := hr2
   refine zxe hp2 hq2 he2 rfl (zc 0 (hc4.below h.below) rfl (zp2 rfl (qb (qB (zp5 rfl (zp1 rfl ?_))))))
   refine zl 0 2 h rfl (zp3 rfl (r_v (qeM qc [0, 1, 2, 3] [.tmp 27, .tmp 28, .tmp 29, .tmp 35] rfl rfl rfl rfl rfl rfl rfl rfl) rfl (qaN qc [.tmp 36] _ ([(⟨i1, i2, y2, (i2 == (W64 ((y1.Nets.length : Int) - 1)))⟩ : Tplace)] : List Tplace) h rfl rfl rfl rfl rfl rfl rfl rfl rfl ⟨(qhK (⟨i1, i2, y2, (i2 == (W64 ((y1.Nets.length : Int) - 1)))⟩ : Tplace)), trivial⟩ rfl ?_)))
   intro w6 p7 S3 h
   obtain ⟨x3, hx1, hF⟩ := qd hF
   obtain ⟨g1, hx1⟩ := qbm hx1
   refine qeC qc 2 h rfl (h.sl 0 rfl).1 (h.sl 0 rfl).2 rfl rfl rfl rfl rfl rfl rfl rfl rfl g1 hx1 rfl ?_
   intro w7 p8 k7 S4 h
   refine zp1 rfl (zNER (zp2 rfl (qb ?_)))
   replace h := h.pick [1, 2, 3] rfl
   exact qy m2 [(1, _), (3, _), (4, _), (5, _), (11, _), (12, _), (13, _), (19, _), (20, _), (21, _)] (Nat.lt_succ_self m2) ⟨rfl, rfl, rfl, rfl, rfl, rfl, rfl, rfl, rfl, rfl, trivial⟩ ⟨_, _, _, _, _, _, hF, rfl, h⟩
  refine qF rfl ?_
  obtain rfl := qj hF; replace hF := hK2
  refine qfP (qB (zp2 rfl (qb ?_)))
  replace h := h.pick [1, 2] rfl
  exact qy m1 [(1, _), (3, _), (11, _), (12, _), (13, _)] (Nat.lt_succ_self m1) ⟨rfl, rfl, rfl, rfl, rfl, trivial⟩ ⟨_, _, _, _, _, _, hF, rfl, h⟩
 refine qF rfl ?_
 obtain rfl := qj hF; replace hF := hK1
 refine zSSR (zp1 rfl (zl 1 2 h rfl (zp2 rfl (qb ?_))))
 obtain ⟨o3, hF, hK3⟩ := qd hF
 refine qA ?_
 replace h := h.pick [0] rfl
 refine qW [(3, _), (42, _), (43, _), (44, _)] ⟨rfl, rfl, rfl, rfl, trivial⟩ ?_
 refine qG (fun m e w' => ∃ (S5 : Nat → Prop) (p9 : Option Addr) (ln3 : Nat) (k8 : Nat) (x4 : (List Tplace)) (i3 : Int), qbc d m x4 i3 = some o3 ∧ e = [(3, .slice p9 ln3 k8), (42, .slice p3 d.Ports.length k3), (43, .int .i64 (d.Ports.length : Int)), (44, .int .i64 i3)] ∧ SH w w' [Ch.own S5 (x4 : List Tplace) [.slice p9 ln3 k8]]) n ⟨_, _, _, _, _, _, hF, rfl, h⟩ ?_
 rintro m3 e3 w8 ⟨S5, p9, ln3, k8, x4, i3, hF, rfl, h⟩
 obtain rfl := (h.sl 0 rfl).2
 rcases m3 with _ | m3
 ·rw [qbc] at hF
  cases hF
 rw [qbc] at hF
 refine zSR (zp1 rfl (zNS ?_))
 refine qp rfl hF ?_ ?_ <;> intro hF
 ·refine zKSBSR (zp1 rfl ?_)
  obtain ⟨y3, hy3, hF⟩ := qd hF
  have he3 := qg hy3
  obtain ⟨b3, o_3, q3, cs4, hp3, hq3, -, hr3, hc6⟩ := s3.at hy3
  obtain rfl := qbz hr3
  refine zxe hp3 hq3 he3 rfl (zc 0 (hc6.below h.below) rfl (qT qc h rfl rfl rfl ?_))
  intro w9 bb3 h
  refine zp1 rfl (zs 0 h rfl ?_)
  intro w10 h
  refine qb (qB (zp3 rfl (zl 0 2 h rfl (zp1 rfl (zl 0 1 h rfl (zp1 rfl (r_v (qeM qc [0, 1, 2, 3] [.const (.int .i64 (-1)), .tmp 50, .tmp 52, .tmp 55] rfl rfl rfl rfl rfl rfl rfl rfl) rfl (qaN qc [.tmp 56] _ ([(⟨(-1), i3, y3.Net, (y3.Dir == 1)⟩ : Tplace)] : List Tplace) h rfl rfl rfl rfl rfl rfl rfl rfl rfl ⟨(qhK (⟨(-1), i3, y3.Net, (y3.Dir == 1)⟩ : Tplace)), trivial⟩ rfl ?_))))))))
  intro w11 p10 S6 h
  obtain ⟨x5, hx2, hF⟩ := qd hF
  obtain ⟨g2, hx2⟩ := qbm hx2
  refine qeC qc 2 h rfl (h.sl 0 rfl).1 (h.sl 0 rfl).2 rfl rfl rfl rfl rfl rfl rfl rfl rfl g2 hx2 rfl ?_
  intro w12 p11 k9 S7 h
  refine zp1 rfl (zNER (zp2 rfl (qb ?_)))
  replace h := h.pick [2] rfl
  exact qy m3 [(3, _), (42, _), (43, _), (44, _)] (Nat.lt_succ_self m3) ⟨rfl, rfl, rfl, rfl, trivial⟩ ⟨_, _, _, _, _, _, hF, rfl, h⟩
 refine qF rfl ?_
 obtain rfl := qj hF; replace hF := hK3
 refine zSR (zp2 rfl (qb ?_))
 obtain rfl := qj hF
 exact qad qc (ρ := (List Tplace)) [GoT.v (List Tplace) [.slice p9 x4.length k8]] h ⟨rfl, trivial⟩ (PV.done h (qai (qaB 0 h rfl)))

def qa0 (a_w : qaj) : Nat → Int → Option (Flow Bool Int)
 | 0, _ => none
 | n + 1, i1 =>
  bif decide (i1 < (a_w.Parent.length : Int)) then
   (idx a_w.Parent i1).bind fun y1 =>
   bif (i1 == 0) then
    bif (y1 != (-1)) then
     some (.ret false)
    else
     (idx a_w.Res 0).bind fun y2 =>
     bif (y2 != 0) then
      some (.ret false)
     else
      bif decide (i1 > 0) then
       (qaY n y1 0 (W64 (i1 - 1))).bind fun r1 =>
       bif (!r1) then
        some (.ret false)
       else
        qa0 a_w n (W64 (i1 + 1))
      else
       qa0 a_w n (W64 (i1 + 1))
   else
    bif decide (i1 > 0) then
     (qaY n y1 0 (W64 (i1 - 1))).bind fun r2 =>
     bif (!r2) then
      some (.ret false)
     else
      qa0 a_w n (W64 (i1 + 1))
    else
     qa0 a_w n (W64 (i1 + 1))
  else
   some (.nxt i1)

def qfc (n : Nat) (a_w : qaj) : Option Bool :=
 (qa0 a_w n 0).bind fun o => match o with
 | .ret r => some r
 | .nxt _ =>
  some true

theorem qkq {n : Nat} {w : World} {a_w : qaj} {cs1 : List Value} (ha1 : GoT.R w (old w) a_w cs1) {r : Bool} (hF : qfc n a_w = some r) : RetV Tryz.prog 185 [GoT.v qaj cs1] w r := by
 obtain ⟨p1, k1, p2, k2, p3, k3, p4, k4, rfl, s1, s2, s3, s4⟩ := qbU ha1
 refine qf Tryz.func185 rfl (m := 38) rfl rfl (fun h => ?_)
 rw [qfc] at hF
 refine zSR (qP h rfl rfl ?_)
 intro w1 bb1 h
 refine zp1 rfl (zNSSR (zp1 rfl (zl 0 0 h rfl (zp2 rfl (qb ?_)))))
 obtain ⟨o1, hF, hK1⟩ := qd hF
 refine qA (qW [(1, _), (6, _), (7, _), (8, _)] ⟨rfl, rfl, rfl, rfl, trivial⟩ ?_)
 refine qG (fun m e w' => ∃ (i1 : Int), qa0 a_w m i1 = some o1 ∧ e = [(1, .pointer (some ⟨bb1, 0, none⟩)), (6, .slice p1 a_w.Parent.length k1), (7, .int .i64 (a_w.Parent.length : Int)), (8, .int .i64 i1)] ∧ SH w w' [Ch.box bb1 [.slice p1 a_w.Parent.length k1, .slice p2 a_w.Res.length k2, .slice p3 a_w.Cap.length k3, .slice p4 a_w.Sink.length k4] 130]) n ⟨_, hF, rfl, h⟩ ?_
 rintro m1 e1 w2 ⟨i1, hF, rfl, h⟩
 rcases m1 with _ | m1
 ·rw [qa0] at hF
  cases hF
 rw [qa0] at hF
 refine zSR (zp1 rfl (zNS ?_))
 refine qp rfl hF ?_ ?_ <;> intro hF
 ·refine zKSBSR (zp1 rfl ?_)
  obtain ⟨y1, hy1, hF⟩ := qd hF
  have he1 := qg hy1
  obtain ⟨b1, o_1, q1, cs2, hp1, hq1, -, hr1, hc2⟩ := s1.at hy1
  obtain rfl := hr1
  refine zxe hp1 hq1 he1 rfl (zc 0 (hc2.below h.below) rfl (zp2 rfl (zNSR (zp3 rfl ?_))))
  by_cases hc3 : (i1 == 0) = true
  ·replace hF := bifT hc3 hF
   refine qC hc3 (t := 15) rfl (qa rfl (zp1 rfl (qa rfl (zp1 rfl (qa rfl (zp1 rfl ?_))))))
   by_cases hc4 : (y1 != (-1)) = true
   ·replace hF := bifT hc4 hF
    refine qC hc4 (t := 18) rfl (zn5 rfl (qa rfl (zp3 rfl (zn2 rfl ?_))))
    refine zn5 rfl (zn2 rfl (zp1 rfl (qb (qez rfl rfl (zSR ?_)))))
    refine zp1 rfl (qb ?_)
    obtain rfl := qj hF; replace hF := hK1
    exact qx qc h hF ⟨rfl, trivial⟩
   replace hc4 := zb hc4
   replace hF := bifF hc4 hF
   refine qD hc4 (t := 18) rfl (qa rfl (zp1 rfl (qa rfl (zl 0 1 h rfl (qa rfl ?_)))))
   obtain ⟨y2, hy2, hF⟩ := qd hF
   have he2 := qg hy2
   obtain ⟨b2, o_2, q2, cs3, hp2, hq2, -, hr2, hc5⟩ := s2.at hy2
   obtain rfl := hr2
   refine zxe hp2 hq2 he2 rfl (qa rfl (zc 0 (hc5.below h.below) rfl (qa rfl (zp1 rfl (qa rfl (zp3 rfl ?_))))))
   by_cases hc6 : (y2 != 0) = true
   ·replace hF := bifT hc6 hF
    refine qC hc6 (t := 26) rfl (zn5 rfl (zn4 rfl (zp1 rfl (qb ?_))))
    refine qez rfl rfl (zSR (zp1 rfl (qb ?_)))
    obtain rfl := qj hF; replace hF := hK1
    exact qx qc h hF ⟨rfl, trivial⟩
   replace hc6 := zb hc6
   replace hF := bifF hc6 hF
   refine qD hc6 (t := 26) rfl (qa rfl (zp1 rfl (qa rfl (zp1 rfl (qa rfl (zp1 rfl ?_))))))
   by_cases hc7 : (decide (i1 > 0)) = true
   ·replace hF := bifT hc7 hF
    refine qC hc7 (t := 29) rfl (qa rfl (zp1 rfl (qa rfl (zp1 rfl (qa rfl (zp1 rfl (qa rfl ?_)))))))
    obtain ⟨r1, hr3, hF⟩ := qd hF
    refine qm r1 h call86 (qaF hr3) rfl rfl rfl rfl ?_
    intro w3 h
    refine qa rfl (zp1 rfl (qa rfl (zp2 rfl (qb ?_))))
    refine qp rfl hF ?_ ?_ <;> intro hF
    ·refine zSR (zp1 rfl (qb ?_))
     obtain rfl := qj hF; replace hF := hK1
     exact qx qc h hF ⟨rfl, trivial⟩
    exact zKER (zp2 rfl (qb (qy m1 [(1, _), (6, _), (7, _), (8, _)] (Nat.lt_succ_self m1) ⟨rfl, rfl, rfl, rfl, trivial⟩ ⟨_, hF, rfl, h⟩)))
   replace hc7 := zb hc7
   replace hF := bifF hc7 hF
   refine qD hc7 (t := 29) rfl (zn5 rfl (qa rfl (zp2 rfl (qb (qcG rfl rfl (qd1 ?_))))))
   exact qfP (qB (zp2 rfl (qb (qy m1 [(1, _), (6, _), (7, _), (8, _)] (Nat.lt_succ_self m1) ⟨rfl, rfl, rfl, rfl, trivial⟩ ⟨_, hF, rfl, h⟩))))
  replace hc3 := zb hc3
  replace hF := bifF hc3 hF
  refine qD hc3 (t := 15) rfl (zn5 rfl (zn4 rfl (zp2 rfl ?_)))
  refine qa rfl (zp1 rfl (qa rfl (zp1 rfl (qa rfl (zp1 rfl ?_)))))
  by_cases hc9 : (decide (i1 > 0)) = true
  ·replace hF := bifT hc9 hF
   refine qC hc9 (t := 29) rfl (qa rfl (zp1 rfl (qa rfl (zp1 rfl (qa rfl (zp1 rfl (qa rfl ?_)))))))
   obtain ⟨r2, hr4, hF⟩ := qd hF
   refine qm r2 h call86 (qaF hr4) rfl rfl rfl rfl ?_
   intro w4 h
   refine qa rfl (zp1 rfl (qa rfl (zp2 rfl (qb ?_))))
   refine qp rfl hF ?_ ?_ <;> intro hF
   ·refine zSR (zp1 rfl (qb ?_))
    obtain rfl := qj hF; replace hF := hK1
    exact qx qc h hF ⟨rfl, trivial⟩
   exact zKER (zp2 rfl (qb (qy m1 [(1, _), (6, _), (7, _), (8, _)] (Nat.lt_succ_self m1) ⟨rfl, rfl, rfl, rfl, trivial⟩ ⟨_, hF, rfl, h⟩)))
  replace hc9 := zb hc9
  replace hF := bifF hc9 hF
  refine qD hc9 (t := 29) rfl (zn5 rfl (qa rfl (zp2 rfl (qb (qcG rfl rfl (qd1 ?_))))))
  exact qfP (qB (zp2 rfl (qb (qy m1 [(1, _), (6, _), (7, _), (8, _)] (Nat.lt_succ_self m1) ⟨rfl, rfl, rfl, rfl, trivial⟩ ⟨_, hF, rfl, h⟩))))
 refine qF rfl ?_
 obtain rfl := qj hF; replace hF := hK1
 exact zSR (zp1 rfl (qb (qx qc h hF ⟨rfl, trivial⟩)))

def qh7 (n : Nat) (a_w : qaj) (sinks : Int) : Option Bool :=
 (qan n a_w.Parent).bind fun r1 =>
 (qaY n r1 1 8).bind fun r2 =>
 bif r2 then
  (qan n a_w.Res).bind fun r3 =>
  bif (r3 == r1) then
   (qan n a_w.Cap).bind fun r4 =>
   bif (r4 == r1) then
    (qfc n a_w).bind fun r5 =>
    bif r5 then
     (qby n a_w.Res 0 1000).bind fun r6 =>
     bif r6 then
      (qby n a_w.Cap 0 500).bind fun r7 =>
      bif r7 then
       (qan n a_w.Sink).bind fun r8 =>
       bif (r8 == sinks) then
        (qby n a_w.Sink 0 (W64 (r1 - 1))).bind fun r9 =>
        some r9
       else
        some false
      else
       some false
     else
      some false
    else
     some false
   else
    some false
  else
   some false
 else
  some false

theorem qmp {n : Nat} {w : World} {a_w : qaj} {sinks : Int} {cs1 : List Value} (ha1 : GoT.R w (old w) a_w cs1) {r : Bool} (hF : qh7 n a_w sinks = some r) : RetV Tryz.prog 149 [GoT.v qaj cs1, .int .i64 sinks] w r := by
 obtain ⟨p1, k1, p2, k2, p3, k3, p4, k4, rfl, s1, s2, s3, s4⟩ := qbU ha1
 refine qf Tryz.func149 rfl (m := 53) rfl rfl (fun h => ?_)
 rw [qh7] at hF
 refine zSR (qP h rfl rfl ?_)
 intro w1 bb1 h
 refine zp1 rfl (zNSR (zp1 rfl (zl 0 0 h rfl ?_)))
 obtain ⟨r1, hr1, hF⟩ := qd hF
 refine qN r1 h call87 (qbo ⟨_, _, rfl, (h.oldS s1)⟩ hr1) rfl rfl rfl rfl ?_
 intro w2 h
 refine zp1 rfl (zNSR (zp1 rfl ?_))
 obtain ⟨r2, hr2, hF⟩ := qd hF
 refine qm r2 h call86 (qaF hr2) rfl rfl rfl rfl ?_
 intro w3 h
 refine zp1 rfl ?_
 by_cases hc1 : r2 = true
 ·replace hF := bifT hc1 hF
  refine qC hc1 (t := 11) rfl (qa rfl (zp1 rfl (qa rfl (zl 0 1 h rfl (qa rfl ?_)))))
  obtain ⟨r3, hr3, hF⟩ := qd hF
  refine qN r3 h call87 (qbo ⟨_, _, rfl, (h.oldS s2)⟩ hr3) rfl rfl rfl rfl ?_
  intro w4 h
  refine qa rfl (zp1 rfl (qa rfl (zp3 rfl ?_)))
  by_cases hc2 : (r3 == r1) = true
  ·replace hF := bifT hc2 hF
   refine qC hc2 (t := 18) rfl (qa rfl (zp1 rfl (qa rfl (zl 0 2 h rfl (qa rfl ?_)))))
   obtain ⟨r4, hr4, hF⟩ := qd hF
   refine qN r4 h call87 (qbo ⟨_, _, rfl, (h.oldS s3)⟩ hr4) rfl rfl rfl rfl ?_
   intro w5 h
   refine qa rfl (zp1 rfl (qa rfl (zp3 rfl ?_)))
   by_cases hc3 : (r4 == r1) = true
   ·replace hF := bifT hc3 hF
    refine qC hc3 (t := 25) rfl (qa rfl (zl 0 0 h rfl (qa rfl ?_)))
    obtain ⟨r5, hr5, hF⟩ := qd hF
    refine qm r5 h call185 (qkq (h.old ha1) hr5) rfl rfl rfl rfl ?_
    intro w6 h
    refine zp2 rfl ?_
    by_cases hc4 : r5 = true
    ·replace hF := bifT hc4 hF
     refine qC hc4 (t := 29) rfl (qa rfl (zp1 rfl (qa rfl (zl 0 1 h rfl (qa rfl ?_)))))
     obtain ⟨r6, hr6, hF⟩ := qd hF
     refine qm r6 h call112 (qct ⟨_, _, rfl, (h.oldS s2)⟩ hr6) rfl rfl rfl rfl ?_
     intro w7 h
     refine zp2 rfl ?_
     by_cases hc5 : r6 = true
     ·replace hF := bifT hc5 hF
      refine qC hc5 (t := 34) rfl (qa rfl (zp1 rfl (qa rfl (zl 0 2 h rfl (qa rfl ?_)))))
      obtain ⟨r7, hr7, hF⟩ := qd hF
      refine qm r7 h call112 (qct ⟨_, _, rfl, (h.oldS s3)⟩ hr7) rfl rfl rfl rfl ?_
      intro w8 h
      refine zp2 rfl ?_
      by_cases hc6 : r7 = true
      ·replace hF := bifT hc6 hF
       refine qC hc6 (t := 39) rfl (qa rfl (zp1 rfl (qa rfl (zl 0 3 h rfl (qa rfl ?_)))))
       obtain ⟨r8, hr8, hF⟩ := qd hF
       refine qN r8 h call87 (qbo ⟨_, _, rfl, (h.oldS s4)⟩ hr8) rfl rfl rfl rfl ?_
       intro w9 h
       refine qa rfl (zp1 rfl (qa rfl (zp3 rfl ?_)))
       by_cases hc7 : (r8 == sinks) = true
       ·replace hF := bifT hc7 hF
        refine qC hc7 (t := 46) rfl (qa rfl (zp1 rfl (qa rfl (zl 0 3 h rfl (qa rfl (zp1 rfl (qa rfl (zp1 rfl (qa rfl ?_)))))))))
        obtain ⟨r9, hr9, hF⟩ := qd hF
        refine qm r9 h call112 (qct ⟨_, _, rfl, (h.oldS s4)⟩ hr9) rfl rfl rfl rfl ?_
        intro w10 h
        exact zp2 rfl (qb (qx qc h hF ⟨rfl, trivial⟩))
       replace hc7 := zb hc7
       replace hF := bifF hc7 hF
       exact qD hc7 (t := 46) rfl (zn5 rfl (zp2 rfl (qb (qx qc h hF ⟨rfl, trivial⟩))))
      replace hc6 := zb hc6
      replace hF := bifF hc6 hF
      refine qD hc6 (t := 39) rfl (zn5 rfl (zp2 rfl (zn4 rfl ?_)))
      exact zn1 rfl (zp2 rfl (qb (qx qc h hF ⟨rfl, trivial⟩)))
     replace hc5 := zb hc5
     replace hF := bifF hc5 hF
     refine qD hc5 (t := 34) rfl (zn3 rfl (zp2 rfl (zn5 rfl (zp1 rfl ?_))))
     exact zp1 rfl (zn5 rfl (zp2 rfl (qb (qx qc h hF ⟨rfl, trivial⟩))))
    replace hc4 := zb hc4
    replace hF := bifF hc4 hF
    refine qD hc4 (t := 29) rfl (zn3 rfl (zp2 rfl (zn3 rfl (zp2 rfl (zn1 rfl ?_)))))
    refine zn4 rfl (zp2 rfl (zn5 rfl (zp1 rfl ?_)))
    exact zp1 rfl (qb (qx qc h hF ⟨rfl, trivial⟩))
   replace hc3 := zb hc3
   replace hF := bifF hc3 hF
   refine qD hc3 (t := 25) rfl (zn2 rfl (zp2 rfl (zn3 rfl (zp2 rfl (zn2 rfl ?_)))))
   refine zn1 rfl (zp2 rfl (zn5 rfl (zp2 rfl (zn2 rfl ?_))))
   exact zn3 rfl (zp2 rfl (qb (qx qc h hF ⟨rfl, trivial⟩)))
  replace hc2 := zb hc2
  replace hF := bifF hc2 hF
  refine qD hc2 (t := 18) rfl (zn5 rfl (zp2 rfl (zn2 rfl (zp2 rfl ?_))))
  refine zn3 rfl (zp2 rfl (zn3 rfl (zp2 rfl (zn2 rfl ?_))))
  refine zn3 rfl (zp2 rfl (zn5 rfl (zp2 rfl ?_)))
  exact qb (qx qc h hF ⟨rfl, trivial⟩)
 replace hc1 := zb hc1
 replace hF := bifF hc1 hF
 refine qD hc1 (t := 11) rfl (zn5 rfl (zp2 rfl (zn4 rfl ?_)))
 refine zn1 rfl (zp2 rfl (zn2 rfl (zp2 rfl (zn3 rfl (zp2 rfl ?_)))))
 refine zn3 rfl (zp2 rfl (zn5 rfl (zp2 rfl ?_)))
 exact zn5 rfl (zp2 rfl (qb (qx qc h hF ⟨rfl, trivial⟩)))

def qdl (b : qz) (x2 : (List Int)) : Nat → Int → Option (Flow Bool Int)
 | 0, _ => none
 | n + 1, i2 =>
  bif decide (i2 < (b.Wires.length : Int)) then
   (idx b.Wires i2).bind fun y4 =>
   (idx x2 i2).bind fun y5 =>
   (qh7 n y4 y5).bind fun r2 =>
   bif (!r2) then
    some (.ret false)
   else
    qdl b x2 n (W64 (i2 + 1))
  else
   some (.nxt i2)

def qca (r1 : (List Tplace)) : Nat → (List Int) → Int → Option ((List Int) × Int)
 | 0, _, _ => none
 | n + 1, x2, i1 =>
  bif decide (i1 < (r1.length : Int)) then
   (idx r1 i1).bind fun y1 =>
   bif (!y1.drives) then
    (idx x2 y1.net).bind fun y2 =>
    (idx x2 y1.net).bind fun _ =>
    qca r1 n (setS x2 y1.net (W64 (y2 + 1))) (W64 (i1 + 1))
   else
    qca r1 n x2 (W64 (i1 + 1))
  else
   some (x2, i1)

def qhh (n : Nat) (b : qz) : Option Bool :=
 (
  (qgw n (⟨b.Library.Cells⟩ : qw) (⟨b.Design.Instances, b.Design.Nets, b.Design.Ports⟩ : ql)).bind fun r3 =>
  bif (!r3) then
   some true
  else
   some ((b.Wires.length : Int) != (b.Design.Nets.length : Int))).bind fun b1 =>
 bif b1 then
  some false
 else
  (mkS (b.Wires.length : Int) (0 : Int)).bind fun x1 =>
  (qb5 n (⟨b.Design.Instances, b.Design.Nets, b.Design.Ports⟩ : ql)).bind fun r1 =>
  (qca r1 n x1 0).bind fun o => match o with
  | (x2, _) =>
   (qdl b x2 n 0).bind fun o => match o with
   | .ret r => some r
   | .nxt _ =>
    some true

theorem ql0 {n : Nat} {w : World} {b : qz} {cs1 : List Value} (ha1 : GoT.R w (old w) b cs1) {r : Bool} (hF : qhh n b = some r) : RetV Tryz.prog 108 [GoT.v qz cs1] w r := by
 obtain ⟨p1, k1, p2, k2, p3, k3, p4, k4, p5, k5, rfl, s1, s2, s3, s4, s5⟩ := qat ha1
 refine qf Tryz.func108 rfl (m := 63) rfl rfl (fun h => ?_)
 rw [qhh] at hF
 refine zSR (qP h rfl rfl ?_)
 intro w1 bb1 h
 refine zp1 rfl (zNSS ?_)
 obtain ⟨KF1, hKF1, o3, hF, hK3⟩ := bindE hF
 refine qdR (fun e w' => ∃ (b1 : Bool), KF1 b1 = some r ∧ e = [(1, .pointer (some ⟨bb1, 0, none⟩)), (23, .bool b1)] ∧ SH w w' [Ch.box bb1 [.slice p1 b.Library.Cells.length k1, .slice p2 b.Design.Instances.length k2, .slice p3 b.Design.Nets.length k3, .slice p4 b.Design.Ports.length k4, .slice p5 b.Wires.length k5] 50]) ?_ ?_
 ·refine qB (zp1 rfl (zl 0 0 h rfl (zp1 rfl (zl 0 1 h rfl ?_))))
  obtain ⟨r3, hr8, hF⟩ := qd hF
  refine qm r3 h call147 (qk9 (qdx (⟨b.Library.Cells⟩ : qw) (h.oldS s1)) (qbf (⟨b.Design.Instances, b.Design.Nets, b.Design.Ports⟩ : ql) (h.oldS s2) (h.oldS s3) (h.oldS s4)) hr8) rfl rfl rfl rfl ?_
  intro w12 h
  refine zp2 rfl ?_
  by_cases hc11 : (!r3) = true
  ·replace hF := bifT hc11 hF
   refine qC hc11 (t := 14) rfl (zn5 rfl (zn3 rfl (zp1 rfl (qb ?_))))
   obtain rfl := qj hF
   exact qu [(1, _), (23, _)] ⟨rfl, rfl, trivial⟩ ⟨_, hK3, rfl, h⟩
  replace hc11 := zb hc11
  replace hF := bifF hc11 hF
  refine qD hc11 (t := 14) rfl (qa rfl (zp1 rfl (qa rfl (zl 0 4 h rfl (qa rfl (zp1 rfl (qa rfl (zp1 rfl (qa rfl (zp1 rfl (qa rfl ?_)))))))))))
  refine zl 0 2 h rfl (qa rfl (zp1 rfl (qa rfl (zp2 rfl (qb ?_)))))
  obtain rfl := qj hF
  exact qu [(1, _), (23, _)] ⟨rfl, rfl, trivial⟩ ⟨_, hK3, rfl, h⟩
 rintro e3 w13 ⟨b1, hF, rfl, h⟩
 subst hKF1
 refine qp rfl hF ?_ ?_ <;> intro hF
 ·exact zSR (zp1 rfl (qb (qx qc h hF ⟨rfl, trivial⟩)))
 refine zKSR (zp1 rfl (zl 0 4 h rfl (zp1 rfl ?_)))
 obtain ⟨x1, hx1, hF⟩ := qd hF
 obtain ⟨g1, g2, hx1⟩ := qdH hx1
 refine qeJ qc Int h rfl rfl rfl rfl rfl rfl rfl rfl rfl g1 g2 hx1 rfl ?_
 intro w2 S1 p6 h
 refine zp1 rfl (zNSSR (zp1 rfl (zl 1 1 h rfl ?_)))
 obtain ⟨r1, hr1, hF⟩ := qd hF
 refine qap r1 h call148 (qex (qbf (⟨b.Design.Instances, b.Design.Nets, b.Design.Ports⟩ : ql) (h.oldS s2) (h.oldS s3) (h.oldS s4)) hr1) rfl rfl rfl rfl ?_
 intro w3 S2 p7 k6 h
 refine zp2 rfl (qb ?_)
 obtain ⟨o1, hF, hK1⟩ := qd hF
 refine qA (qW [(1, _), (3, _), (30, _), (31, _), (32, _)] ⟨rfl, rfl, rfl, rfl, rfl, trivial⟩ ?_)
 refine qG (fun m e w' => ∃ (x2 : (List Int)) (i1 : Int), qca r1 m x2 i1 = some o1 ∧ e = [(1, .pointer (some ⟨bb1, 0, none⟩)), (3, .slice p6 x1.length x1.length), (30, .slice p7 r1.length k6), (31, .int .i64 (r1.length : Int)), (32, .int .i64 i1)] ∧ SH w w' [Ch.own S2 (r1 : List Tplace) [.slice p7 r1.length k6], Ch.own S1 (x2 : List Int) [.slice p6 x1.length x1.length], Ch.box bb1 [.slice p1 b.Library.Cells.length k1, .slice p2 b.Design.Instances.length k2, .slice p3 b.Design.Nets.length k3, .slice p4 b.Design.Ports.length k4, .slice p5 b.Wires.length k5] 50]) n ⟨_, _, hF, rfl, h⟩ ?_
 rintro m1 e1 w4 ⟨x2, i1, hF, rfl, h⟩
 rcases m1 with _ | m1
 ·rw [qca] at hF
  cases hF
 rw [qca] at hF
 refine zSR (zp1 rfl (zNS ?_))
 refine qp rfl hF ?_ ?_ <;> intro hF
 ·refine zKSBSR ?_
  obtain ⟨y1, hy1, hF⟩ := qd hF
  have he1 := qg hy1
  obtain ⟨b2, o_1, q1, cs2, hp1, hq1, -, hr2, hc3⟩ := (h.sl 0 rfl).1.at hy1
  obtain rfl := qdE hr2
  refine zx hp1 hq1 ⟨he1.1, qa8 he1.2.1 (h.sl 0 rfl).2⟩ rfl (zc 0 hc3 rfl (qT qc h rfl rfl rfl ?_))
  intro w5 bb2 h
  refine zs 0 h rfl ?_
  intro w6 h
  refine zNSR (zp1 rfl (zl 0 3 h rfl (zp1 rfl (qb ?_))))
  refine qp rfl hF ?_ ?_ <;> intro hF
  ·refine qB (zp2 rfl (zl 0 2 h rfl ?_))
   obtain ⟨y2, hy2, hF⟩ := qd hF
   have he2 := qg hy2
   obtain ⟨b3, o_2, q2, cs3, hp2, hq2, -, hr3, hc5⟩ := (h.sl 2 rfl).1.at hy2
   obtain rfl := hr3
   refine zx hp2 hq2 ⟨he2.1, qa8 he2.2.1 (h.sl 2 rfl).2⟩ rfl (zc 0 hc5 rfl (zp1 rfl ?_))
   obtain ⟨y3, hy3, hF⟩ := qd hF
   have he3 := qg hy3
   obtain ⟨b4, o_3, q3, cs4, hp3, hq3, -, hr4, hc6⟩ := (h.sl 2 rfl).1.at hy3
   obtain rfl := hr4
   refine zx hp3 hq3 ⟨he3.1, qa8 he3.2.1 (h.sl 2 rfl).2⟩ rfl (qfQ qc 2 0 (W64 (y2 + 1)) h rfl hy3 hp3 hq3 rfl hc6 rfl rfl rfl rfl rfl rfl rfl ?_)
   intro w7 h
   refine zNER (zp2 rfl (qb ?_))
   replace h := h.pick [1, 2, 3] rfl
   exact qy m1 [(1, _), (3, _), (30, _), (31, _), (32, _)] (Nat.lt_succ_self m1) ⟨rfl, rfl, rfl, rfl, rfl, trivial⟩ ⟨_, _, hF, rfl, h⟩
  refine zKER (zp2 rfl (qb ?_))
  replace h := h.pick [1, 2, 3] rfl
  exact qy m1 [(1, _), (3, _), (30, _), (31, _), (32, _)] (Nat.lt_succ_self m1) ⟨rfl, rfl, rfl, rfl, rfl, trivial⟩ ⟨_, _, hF, rfl, h⟩
 refine qF rfl ?_
 obtain rfl := qj hF; replace hF := hK1
 refine zSSR (zp1 rfl (zl 2 4 h rfl (zp2 rfl (qb ?_))))
 obtain ⟨o2, hF, hK2⟩ := qd hF
 refine qA ?_
 replace h := h.pick [1] rfl
 refine qW [(3, _), (48, _), (49, _), (50, _)] ⟨rfl, rfl, rfl, rfl, trivial⟩ ?_
 refine qG (fun m e w' => ∃ (i2 : Int), qdl b x2 m i2 = some o2 ∧ e = [(3, .slice p6 x1.length x1.length), (48, .slice p5 b.Wires.length k5), (49, .int .i64 (b.Wires.length : Int)), (50, .int .i64 i2)] ∧ SH w w' [Ch.own S1 (x2 : List Int) [.slice p6 x1.length x1.length]]) n ⟨_, hF, rfl, h⟩ ?_
 rintro m2 e2 w8 ⟨i2, hF, rfl, h⟩
 rcases m2 with _ | m2
 ·rw [qdl] at hF
  cases hF
 rw [qdl] at hF
 refine zSR (zp1 rfl (zNS ?_))
 refine qp rfl hF ?_ ?_ <;> intro hF
 ·refine zKSBSR (zp1 rfl ?_)
  obtain ⟨y4, hy4, hF⟩ := qd hF
  have he4 := qg hy4
  obtain ⟨b5, o_4, q4, cs5, hp4, hq4, -, hr5, hc8⟩ := s5.at hy4
  obtain ⟨p8, k7, p9, k8, p10, k9, p11, k10, rfl, s6, s7, s8, s9⟩ := qbU hr5
  refine zxe hp4 hq4 he4 rfl (zc 0 (hc8.below h.below) rfl (qT qc h rfl rfl rfl ?_))
  intro w9 bb3 h
  refine zp1 rfl (zs 0 h rfl ?_)
  intro w10 h
  replace h : SH _ _ [Ch.box bb3 [.slice p8 y4.Parent.length k7, .slice p9 y4.Res.length k8, .slice p10 y4.Cap.length k9, .slice p11 y4.Sink.length k10] 130, Ch.own S1 (x2 : List Int) [.slice p6 x1.length x1.length]] := h
  refine zNS ?_
  refine qb3 rfl (by kernel_rfl) ?_
  refine zdl 0 0 h rfl ?_
  refine zd2 rfl ?_
  obtain ⟨y5, hy5, hF⟩ := qd hF
  have he5 := qg hy5
  obtain ⟨b6, o_5, q5, cs6, hp5, hq5, -, hr6, hc9⟩ := (h.sl 1 rfl).1.at hy5
  obtain rfl := hr6
  refine zdx hp5 hq5 ⟨he5.1, qa8 he5.2.1 (h.sl 1 rfl).2⟩ rfl ?_
  refine zdc 0 hc9 rfl ?_
  obtain ⟨r2, hr7, hF⟩ := qd hF
  refine qb7 r2 (vsB _) call149 (fun _ hb => qmp (qip y4 ((h.ext hb).oldS s6) ((h.ext hb).oldS s7) ((h.ext hb).oldS s8) ((h.ext hb).oldS s9)) hr7) rfl rfl rfl rfl ?_
  refine zd1 rfl ?_
  refine qaR (fun w11 hb => ?_)
  replace h := h.ext hb
  clear hb
  refine qp rfl hF ?_ ?_ <;> intro hF
  ·refine zSR (zp1 rfl (qb ?_))
   obtain rfl := qj hF; replace hF := hK2
   exact qx qc h hF ⟨rfl, trivial⟩
  refine zKER (zp2 rfl (qb ?_))
  replace h := h.pick [1] rfl
  exact qy m2 [(3, _), (48, _), (49, _), (50, _)] (Nat.lt_succ_self m2) ⟨rfl, rfl, rfl, rfl, trivial⟩ ⟨_, hF, rfl, h⟩
 refine qF rfl ?_
 obtain rfl := qj hF; replace hF := hK2
 exact zSR (zp1 rfl (qb (qx qc h hF ⟨rfl, trivial⟩)))

end Go.Fw


namespace Go.Fw
open Go

def qcx (a : (List Int)) : Nat := a.length
theorem qcL {a : (List Int)} (h : (rngL rngI) a) (w : qcx a ≤ 1048576) : (okL okI) a :=
  ⟨by simp only [qcx] at w; omega, fun x hx => h.2 x hx⟩
def qgR (x : qJ) : Prop := (rngL rngI) x.Slews ∧ (rngL rngI) x.Loads ∧ (rngL rngI) x.Values
def qft (x : qJ) : Nat := qcx x.Slews + qcx x.Loads + qcx x.Values
structure qhu (x : qJ) : Prop where
  Slews : (okL okI) x.Slews
  Loads : (okL okI) x.Loads
  Values : (okL okI) x.Values
theorem qoQ {x : qJ} (h : qgR x) (w : qft x ≤ 1048576) : qhu x := ⟨qcL (h.1) (by simp only [qft] at w; omega), qcL (h.2.1) (by simp only [qft] at w; omega), qcL (h.2.2) (by simp only [qft] at w; omega)⟩
def qfC (a : (List qJ)) : Nat := a.length + (a.map fun x => qft x).sum
theorem qlC {a : (List qJ)} (h : (rngL qgR) a) (w : qfC a ≤ 1048576) : (okL qhu) a :=
  ⟨by simp only [qfC] at w; omega, fun x hx => qoQ (h.2 x hx) (by have := qdV (wt := fun x : qJ => qft x) hx; simp only [qfC] at w; omega)⟩
def qjw (x : qah) : Prop := rngI x.Kind ∧ rngI x.From ∧ rngI x.To ∧ rngI x.Sense ∧ (rngL qgR) x.Delay ∧ (rngL qgR) x.Slew
def qiU (x : qah) : Nat := qfC x.Delay + qfC x.Slew
structure qkA (x : qah) : Prop where
  Kind : okI x.Kind
  From : okI x.From
  To : okI x.To
  Sense : okI x.Sense
  Delay : (okL qhu) x.Delay
  Slew : (okL qhu) x.Slew
theorem qro {x : qah} (h : qjw x) (w : qiU x ≤ 1048576) : qkA x := ⟨h.1, h.2.1, h.2.2.1, h.2.2.2.1, qlC (h.2.2.2.2.1) (by simp only [qiU] at w; omega), qlC (h.2.2.2.2.2) (by simp only [qiU] at w; omega)⟩
theorem qee {a : (List Int)} (h : qcx a ≤ 1048576) : Ev (fun n => qa4 n a a) true := by
  have hl : a.length ≤ 1048576 := by simp only [qcx] at h; omega
  unfold qa4
  exact Ev.ff (by simp) (Ev.bind (b := .nxt (a.length : Int)) (qhS (eqf := fun _ x y => some (!(x != y))) (fun x _ => Ev.now (by simp))
    (fun n => by simp only [qdp, qv (Nat.le_refl _), cond_false])
    (fun n j x hx => by
      have hj := (List.getElem?_eq_some_iff.1 hx).1
      simp only [qdp, qt hj, cond_true, qaJ hx, Option.bind_some, Bool.not_not, qq (show j < 9223372036854775807 by omega)])) .done)

theorem qqK {a : qJ} (h : qft a ≤ 1048576) : Ev (fun n => qgd n a a) true := by
  unfold qgd
  simp only [qft] at h
  exact Ev.bind (qee (a := a.Slews) (by omega)) (Ev.ff rfl (Ev.bind (qee (a := a.Loads) (by omega)) (Ev.ff rfl (Ev.bind (qee (a := a.Values) (by omega)) (Ev.ff rfl (.done))))))

theorem qnp {a : (List qJ)} (h : qfC a ≤ 1048576) : Ev (fun n => qfK n a a) true := by
  have hl : a.length ≤ 1048576 := by simp only [qfC] at h; omega
  unfold qfK
  exact Ev.ff (by simp) (Ev.bind (b := .nxt (a.length : Int)) (qhS (eqf := qgd) (fun x hx => qqK (by have := qdV (wt := fun x : qJ => qft x) hx; simp only [qfC] at h; omega))
    (fun n => by simp only [qdq, qv (Nat.le_refl _), cond_false])
    (fun n j x hx => by
      have hj := (List.getElem?_eq_some_iff.1 hx).1
      simp only [qdq, qt hj, cond_true, qaJ hx, Option.bind_some, qq (show j < 9223372036854775807 by omega)])) .done)

theorem qsg {a : qah} (h : qiU a ≤ 1048576) : Ev (fun n => qhG n a a) true := by
  unfold qhG
  simp only [qiU] at h
  exact Ev.ff qbD (Ev.ff qbD (Ev.ff qbD (Ev.ff qbD (Ev.bind (qnp (a := a.Delay) (by omega)) (Ev.ff rfl (Ev.bind (qnp (a := a.Slew) (by omega)) (Ev.ff rfl (.done))))))))

def qiE (a : (List qah)) : Nat := a.length + (a.map fun x => qiU x).sum
theorem qqf {a : (List qah)} (h : (rngL qjw) a) (w : qiE a ≤ 1048576) : (okL qkA) a :=
  ⟨by simp only [qiE] at w; omega, fun x hx => qro (h.2 x hx) (by have := qdV (wt := fun x : qah => qiU x) hx; simp only [qiE] at w; omega)⟩
theorem qrD {a : (List qah)} (h : qiE a ≤ 1048576) : Ev (fun n => qhU n a a) true := by
  have hl : a.length ≤ 1048576 := by simp only [qiE] at h; omega
  unfold qhU
  exact Ev.ff (by simp) (Ev.bind (b := .nxt (a.length : Int)) (qhS (eqf := qhG) (fun x hx => qsg (by have := qdV (wt := fun x : qah => qiU x) hx; simp only [qiE] at h; omega))
    (fun n => by simp only [qew, qv (Nat.le_refl _), cond_false])
    (fun n j x hx => by
      have hj := (List.getElem?_eq_some_iff.1 hx).1
      simp only [qew, qt hj, cond_true, qaJ hx, Option.bind_some, qq (show j < 9223372036854775807 by omega)])) .done)

def qjp (x : qaC) : Prop := rngS x.Name ∧ rngI x.Dir ∧ rngI x.Cap ∧ rngB x.Clock
def qjP (x : qaC) : Nat := x.Name.size
structure qjT (x : qaC) : Prop where
  Name : okS x.Name
  Dir : okI x.Dir
  Cap : okI x.Cap
  Clock : okT x.Clock
theorem qqG {x : qaC} (h : qjp x) (w : qjP x ≤ 1048576) : qjT x := ⟨(by unfold okS; simp only [qjP] at w; omega), h.2.1, h.2.2.1, trivial⟩
def qiv (a : (List qaC)) : Nat := a.length + (a.map fun x => qjP x).sum
theorem qpX {a : (List qaC)} (h : (rngL qjp) a) (w : qiv a ≤ 1048576) : (okL qjT) a :=
  ⟨by simp only [qiv] at w; omega, fun x hx => qqG (h.2 x hx) (by have := qdV (wt := fun x : qaC => qjP x) hx; simp only [qiv] at w; omega)⟩
def qiG (x : qE) : Prop := rngS x.Name ∧ rngI x.Kind ∧ (rngL qjp) x.Pins ∧ (rngL qjw) x.Arcs ∧ (rngL rngI) x.Truth ∧ rngI x.Leak ∧ rngI x.Energy
def qgm (x : qE) : Nat := x.Name.size + qiv x.Pins + qiE x.Arcs + qcx x.Truth
structure qkc (x : qE) : Prop where
  Name : okS x.Name
  Kind : okI x.Kind
  Pins : (okL qjT) x.Pins
  Arcs : (okL qkA) x.Arcs
  Truth : (okL okI) x.Truth
  Leak : okI x.Leak
  Energy : okI x.Energy
theorem qqg {x : qE} (h : qiG x) (w : qgm x ≤ 1048576) : qkc x := ⟨(by unfold okS; simp only [qgm] at w; omega), h.2.1, qpX (h.2.2.1) (by simp only [qgm] at w; omega), qqf (h.2.2.2.1) (by simp only [qgm] at w; omega), qcL (h.2.2.2.2.1) (by simp only [qgm] at w; omega), h.2.2.2.2.2.1, h.2.2.2.2.2.2⟩
def qg5 (a : (List qE)) : Nat := a.length + (a.map fun x => qgm x).sum
theorem qo6 {a : (List qE)} (h : (rngL qiG) a) (w : qg5 a ≤ 1048576) : (okL qkc) a :=
  ⟨by simp only [qg5] at w; omega, fun x hx => qqg (h.2 x hx) (by have := qdV (wt := fun x : qE => qgm x) hx; simp only [qg5] at w; omega)⟩
def qiN (x : qw) : Prop := (rngL qiG) x.Cells
def qgi (x : qw) : Nat := qg5 x.Cells
structure qgL (x : qw) : Prop where
  Cells : (okL qkc) x.Cells
theorem qnE {x : qw} (h : qiN x) (w : qgi x ≤ 1048576) : qgL x := ⟨qo6 (h) (by simp only [qgi] at w; omega)⟩
def qfr (x : qr) : Prop := rngS x.Name ∧ rngI x.Cell ∧ (rngL rngI) x.Nets
def qc7 (x : qr) : Nat := x.Name.size + qcx x.Nets
structure qjL (x : qr) : Prop where
  Name : okS x.Name
  Cell : okI x.Cell
  Nets : (okL okI) x.Nets
theorem qm6 {x : qr} (h : qfr x) (w : qc7 x ≤ 1048576) : qjL x := ⟨(by unfold okS; simp only [qc7] at w; omega), h.2.1, qcL (h.2.2) (by simp only [qc7] at w; omega)⟩
def qdA (a : (List qr)) : Nat := a.length + (a.map fun x => qc7 x).sum
theorem qmc {a : (List qr)} (h : (rngL qfr) a) (w : qdA a ≤ 1048576) : (okL qjL) a :=
  ⟨by simp only [qdA] at w; omega, fun x hx => qm6 (h.2 x hx) (by have := qdV (wt := fun x : qr => qc7 x) hx; simp only [qdA] at w; omega)⟩
def qgk (a : (List ByteArray)) : Nat := a.length + (a.map fun x => x.size).sum
theorem qnD {a : (List ByteArray)} (_ : (rngL rngS) a) (w : qgk a ≤ 1048576) : (okL okS) a :=
  ⟨by simp only [qgk] at w; omega, fun x hx => (by unfold okS; have := qdV (wt := fun x : ByteArray => x.size) hx; simp only [qgk] at w; omega)⟩
def qiD (x : qaw) : Prop := rngS x.Name ∧ rngI x.Dir ∧ rngI x.Net
def qiz (x : qaw) : Nat := x.Name.size
structure qnH (x : qaw) : Prop where
  Name : okS x.Name
  Dir : okI x.Dir
  Net : okI x.Net
theorem qqb {x : qaw} (h : qiD x) (w : qiz x ≤ 1048576) : qnH x := ⟨(by unfold okS; simp only [qiz] at w; omega), h.2.1, h.2.2⟩
def qg9 (a : (List qaw)) : Nat := a.length + (a.map fun x => qiz x).sum
theorem qpu {a : (List qaw)} (h : (rngL qiD) a) (w : qg9 a ≤ 1048576) : (okL qnH) a :=
  ⟨by simp only [qg9] at w; omega, fun x hx => qqb (h.2 x hx) (by have := qdV (wt := fun x : qaw => qiz x) hx; simp only [qg9] at w; omega)⟩
def qjt (x : ql) : Prop := (rngL qfr) x.Instances ∧ (rngL rngS) x.Nets ∧ (rngL qiD) x.Ports
def qf6 (x : ql) : Nat := qdA x.Instances + qgk x.Nets + qg9 x.Ports
structure qir (x : ql) : Prop where
  Instances : (okL qjL) x.Instances
  Nets : (okL okS) x.Nets
  Ports : (okL qnH) x.Ports
theorem qol {x : ql} (h : qjt x) (w : qf6 x ≤ 1048576) : qir x := ⟨qmc (h.1) (by simp only [qf6] at w; omega), qnD (h.2.1) (by simp only [qf6] at w; omega), qpu (h.2.2) (by simp only [qf6] at w; omega)⟩
def qix (x : qaj) : Prop := (rngL rngI) x.Parent ∧ (rngL rngI) x.Res ∧ (rngL rngI) x.Cap ∧ (rngL rngI) x.Sink
def qgn (x : qaj) : Nat := qcx x.Parent + qcx x.Res + qcx x.Cap + qcx x.Sink
structure qkV (x : qaj) : Prop where
  Parent : (okL okI) x.Parent
  Res : (okL okI) x.Res
  Cap : (okL okI) x.Cap
  Sink : (okL okI) x.Sink
theorem qqc {x : qaj} (h : qix x) (w : qgn x ≤ 1048576) : qkV x := ⟨qcL (h.1) (by simp only [qgn] at w; omega), qcL (h.2.1) (by simp only [qgn] at w; omega), qcL (h.2.2.1) (by simp only [qgn] at w; omega), qcL (h.2.2.2) (by simp only [qgn] at w; omega)⟩
def qho (a : (List qaj)) : Nat := a.length + (a.map fun x => qgn x).sum
theorem qoV {a : (List qaj)} (h : (rngL qix) a) (w : qho a ≤ 1048576) : (okL qkV) a :=
  ⟨by simp only [qho] at w; omega, fun x hx => qqc (h.2 x hx) (by have := qdV (wt := fun x : qaj => qgn x) hx; simp only [qho] at w; omega)⟩
def qkf (x : qz) : Prop := qiN x.Library ∧ qjt x.Design ∧ (rngL qix) x.Wires
def qht (x : qz) : Nat := qgi x.Library + qf6 x.Design + qho x.Wires
structure qfG (x : qz) : Prop where
  Library : qgL x.Library
  Design : qir x.Design
  Wires : (okL qkV) x.Wires
theorem qo2 {x : qz} (h : qkf x) (w : qht x ≤ 1048576) : qfG x := ⟨qnE (h.1) (by simp only [qht] at w; omega), qol (h.2.1) (by simp only [qht] at w; omega), qoV (h.2.2) (by simp only [qht] at w; omega)⟩
theorem qsd {a : qaC} (_ : qjP a ≤ 1048576) : Ev (fun n => qhA n a a) true := by
  unfold qhA
  exact Ev.ff qij (Ev.ff qbD (Ev.ff qbD (Ev.ff qk4 (.done))))

theorem qrT {a : (List qaC)} (h : qiv a ≤ 1048576) : Ev (fun n => qhV n a a) true := by
  have hl : a.length ≤ 1048576 := by simp only [qiv] at h; omega
  unfold qhV
  exact Ev.ff (by simp) (Ev.bind (b := .nxt (a.length : Int)) (qhS (eqf := qhA) (fun x hx => qsd (by have := qdV (wt := fun x : qaC => qjP x) hx; simp only [qiv] at h; omega))
    (fun n => by simp only [qep, qv (Nat.le_refl _), cond_false])
    (fun n j x hx => by
      have hj := (List.getElem?_eq_some_iff.1 hx).1
      simp only [qep, qt hj, cond_true, qaJ hx, Option.bind_some, qq (show j < 9223372036854775807 by omega)])) .done)

theorem qrE {a : qE} (h : qgm a ≤ 1048576) : Ev (fun n => qg1 n a a) true := by
  unfold qg1
  simp only [qgm] at h
  exact Ev.ff qij (Ev.ff qbD (Ev.bind (qrT (a := a.Pins) (by omega)) (Ev.ff rfl (Ev.bind (qrD (a := a.Arcs) (by omega)) (Ev.ff rfl (Ev.bind (qee (a := a.Truth) (by omega)) (Ev.ff rfl (Ev.ff qbD (Ev.ff qbD (.done))))))))))

theorem qq4 {a : (List qE)} (h : qg5 a ≤ 1048576) : Ev (fun n => qhm n a a) true := by
  have hl : a.length ≤ 1048576 := by simp only [qg5] at h; omega
  unfold qhm
  exact Ev.ff (by simp) (Ev.bind (b := .nxt (a.length : Int)) (qhS (eqf := qg1) (fun x hx => qrE (by have := qdV (wt := fun x : qE => qgm x) hx; simp only [qg5] at h; omega))
    (fun n => by simp only [qdT, qv (Nat.le_refl _), cond_false])
    (fun n j x hx => by
      have hj := (List.getElem?_eq_some_iff.1 hx).1
      simp only [qdT, qt hj, cond_true, qaJ hx, Option.bind_some, qq (show j < 9223372036854775807 by omega)])) .done)

theorem qoI {a : qw} (h : qgi a ≤ 1048576) : Ev (fun n => qfY n a a) true := by
  unfold qfY
  simp only [qgi] at h
  exact Ev.bind (qq4 (a := a.Cells) (by omega)) (Ev.ff rfl (.done))

theorem qof {a : qr} (h : qc7 a ≤ 1048576) : Ev (fun n => qeD n a a) true := by
  unfold qeD
  simp only [qc7] at h
  exact Ev.ff qij (Ev.ff qbD (Ev.bind (qee (a := a.Nets) (by omega)) (Ev.ff rfl (.done))))

theorem qnX {a : (List qr)} (h : qdA a ≤ 1048576) : Ev (fun n => qfg n a a) true := by
  have hl : a.length ≤ 1048576 := by simp only [qdA] at h; omega
  unfold qfg
  exact Ev.ff (by simp) (Ev.bind (b := .nxt (a.length : Int)) (qhS (eqf := qeD) (fun x hx => qof (by have := qdV (wt := fun x : qr => qc7 x) hx; simp only [qdA] at h; omega))
    (fun n => by simp only [qcr, qv (Nat.le_refl _), cond_false])
    (fun n j x hx => by
      have hj := (List.getElem?_eq_some_iff.1 hx).1
      simp only [qcr, qt hj, cond_true, qaJ hx, Option.bind_some, qq (show j < 9223372036854775807 by omega)])) .done)

theorem qpw {a : (List ByteArray)} (h : qgk a ≤ 1048576) : Ev (fun n => qf2 n a a) true := by
  have hl : a.length ≤ 1048576 := by simp only [qgk] at h; omega
  unfold qf2
  exact Ev.ff (by simp) (Ev.bind (b := .nxt (a.length : Int)) (qhS (eqf := fun _ x y => some (!(x.toList != y.toList))) (fun x _ => Ev.now (by simp))
    (fun n => by simp only [qcV, qv (Nat.le_refl _), cond_false])
    (fun n j x hx => by
      have hj := (List.getElem?_eq_some_iff.1 hx).1
      simp only [qcV, qt hj, cond_true, qaJ hx, Option.bind_some, Bool.not_not, qq (show j < 9223372036854775807 by omega)])) .done)

theorem qrZ {a : qaw} (_ : qiz a ≤ 1048576) : Ev (fun n => qgV n a a) true := by
  unfold qgV
  exact Ev.ff qij (Ev.ff qbD (Ev.ff qbD (.done)))

theorem qqq {a : (List qaw)} (h : qg9 a ≤ 1048576) : Ev (fun n => qhi n a a) true := by
  have hl : a.length ≤ 1048576 := by simp only [qg9] at h; omega
  unfold qhi
  exact Ev.ff (by simp) (Ev.bind (b := .nxt (a.length : Int)) (qhS (eqf := qgV) (fun x hx => qrZ (by have := qdV (wt := fun x : qaw => qiz x) hx; simp only [qg9] at h; omega))
    (fun n => by simp only [qdU, qv (Nat.le_refl _), cond_false])
    (fun n j x hx => by
      have hj := (List.getElem?_eq_some_iff.1 hx).1
      simp only [qdU, qt hj, cond_true, qaJ hx, Option.bind_some, qq (show j < 9223372036854775807 by omega)])) .done)

theorem qp7 {a : ql} (h : qf6 a ≤ 1048576) : Ev (fun n => qgE n a a) true := by
  unfold qgE
  simp only [qf6] at h
  exact Ev.bind (qnX (a := a.Instances) (by omega)) (Ev.ff rfl (Ev.bind (qpw (a := a.Nets) (by omega)) (Ev.ff rfl (Ev.bind (qqq (a := a.Ports) (by omega)) (Ev.ff rfl (.done))))))

theorem qrV {a : qaj} (h : qgn a ≤ 1048576) : Ev (fun n => qgX n a a) true := by
  unfold qgX
  simp only [qgn] at h
  exact Ev.bind (qee (a := a.Parent) (by omega)) (Ev.ff rfl (Ev.bind (qee (a := a.Res) (by omega)) (Ev.ff rfl (Ev.bind (qee (a := a.Cap) (by omega)) (Ev.ff rfl (Ev.bind (qee (a := a.Sink) (by omega)) (Ev.ff rfl (.done))))))))

theorem qqx {a : (List qaj)} (h : qho a ≤ 1048576) : Ev (fun n => qg7 n a a) true := by
  have hl : a.length ≤ 1048576 := by simp only [qho] at h; omega
  unfold qg7
  exact Ev.ff (by simp) (Ev.bind (b := .nxt (a.length : Int)) (qhS (eqf := qgX) (fun x hx => qrV (by have := qdV (wt := fun x : qaj => qgn x) hx; simp only [qho] at h; omega))
    (fun n => by simp only [qdW, qv (Nat.le_refl _), cond_false])
    (fun n j x hx => by
      have hj := (List.getElem?_eq_some_iff.1 hx).1
      simp only [qdW, qt hj, cond_true, qaJ hx, Option.bind_some, qq (show j < 9223372036854775807 by omega)])) .done)

theorem qrl {a : qz} (h : qht a ≤ 1048576) : Ev (fun n => qhp n a a) true := by
  unfold qhp
  simp only [qht] at h
  exact Ev.bind (qoI (a := a.Library) (by omega)) (Ev.ff rfl (Ev.bind (qp7 (a := a.Design) (by omega)) (Ev.ff rfl (Ev.bind (qqx (a := a.Wires) (by omega)) (Ev.ff rfl (.done))))))

theorem qeF {a : (List Int)} {left : Int} (h : (rngL rngI) a) (h0 : 0 ≤ left) (h1 : left ≤ 1048576) : Sz (fun n => qbt n a left) (fun r => r = left - (qcx a : Int)) :=
  Sz.less h0 h1 (by omega) (by have := h.1; omega) (fun _ => rfl)

theorem qqo {a : qJ} {left : Int} (h : qgR a) (h0 : 0 ≤ left) (h1 : left ≤ 1048576) : Sz (fun n => qgg n a left) (fun r => r = left - (qft a : Int)) := by
  unfold qgg
  obtain ⟨h_0, h_1, h_2⟩ := h
  exact Sz.step (qeF (a := a.Slews) h_0 (by omega) (by omega)) fun r0 p0 q0 => Sz.step (qeF (a := a.Loads) h_1 (by omega) (by omega)) fun r1 p1 q1 => Sz.step (qeF (a := a.Values) h_2 (by omega) (by omega)) fun r2 p2 q2 => Sz.done p2 (by simp only [qft]; omega)

theorem qnr {a : (List qJ)} {left : Int} (h : (rngL qgR) a) (h0 : 0 ≤ left) (h1 : left ≤ 1048576) : Sz (fun n => qgD n a left) (fun r => r = left - (qfC a : Int)) :=
  Sz.list (Lf := qcP a) (wt := fun x : qJ => qft x) (el := qgg) h0 h1 h.1 (fun x hx left p q => qqo (h.2 x hx) p q)
    (fun acc n => by simp only [qcP, qv (Nat.le_refl _), cond_false])
    (fun acc n j x hx => by
      have hj := (List.getElem?_eq_some_iff.1 hx).1
      have hl := h.1
      simp only [qcP, qt hj, cond_true, qaJ hx, Option.bind_some, qq (show j < 9223372036854775807 by omega)])
    (fun _ => rfl)

theorem qr6 {a : qah} {left : Int} (h : qjw a) (h0 : 0 ≤ left) (h1 : left ≤ 1048576) : Sz (fun n => qhE n a left) (fun r => r = left - (qiU a : Int)) := by
  unfold qhE
  obtain ⟨h_0, h_1, h_2, h_3, h_4, h_5⟩ := h
  exact Sz.step (qnr (a := a.Delay) h_4 (by omega) (by omega)) fun r0 p0 q0 => Sz.step (qnr (a := a.Slew) h_5 (by omega) (by omega)) fun r1 p1 q1 => Sz.done p1 (by simp only [qiU]; omega)

theorem qrr {a : (List qah)} {left : Int} (h : (rngL qjw) a) (h0 : 0 ≤ left) (h1 : left ≤ 1048576) : Sz (fun n => qiQ n a left) (fun r => r = left - (qiE a : Int)) :=
  Sz.list (Lf := qdC a) (wt := fun x : qah => qiU x) (el := qhE) h0 h1 h.1 (fun x hx left p q => qr6 (h.2 x hx) p q)
    (fun acc n => by simp only [qdC, qv (Nat.le_refl _), cond_false])
    (fun acc n j x hx => by
      have hj := (List.getElem?_eq_some_iff.1 hx).1
      have hl := h.1
      simp only [qdC, qt hj, cond_true, qaJ hx, Option.bind_some, qq (show j < 9223372036854775807 by omega)])
    (fun _ => rfl)

theorem qsk {a : qaC} {left : Int} (h : qjp a) (h0 : 0 ≤ left) (h1 : left ≤ 1048576) : Sz (fun n => qhD n a left) (fun r => r = left - (qjP a : Int)) := by
  unfold qhD
  obtain ⟨h_0, h_1, h_2, h_3⟩ := h
  exact Sz.strStep h_0 (by omega) (by omega) fun p0 q0 => Sz.done p0 (by simp only [qjP]; omega)

theorem qrI {a : (List qaC)} {left : Int} (h : (rngL qjp) a) (h0 : 0 ≤ left) (h1 : left ≤ 1048576) : Sz (fun n => qiR n a left) (fun r => r = left - (qiv a : Int)) :=
  Sz.list (Lf := qdJ a) (wt := fun x : qaC => qjP x) (el := qhD) h0 h1 h.1 (fun x hx left p q => qsk (h.2 x hx) p q)
    (fun acc n => by simp only [qdJ, qv (Nat.le_refl _), cond_false])
    (fun acc n j x hx => by
      have hj := (List.getElem?_eq_some_iff.1 hx).1
      have hl := h.1
      simp only [qdJ, qt hj, cond_true, qaJ hx, Option.bind_some, qq (show j < 9223372036854775807 by omega)])
    (fun _ => rfl)

theorem qrG {a : qE} {left : Int} (h : qiG a) (h0 : 0 ≤ left) (h1 : left ≤ 1048576) : Sz (fun n => qgT n a left) (fun r => r = left - (qgm a : Int)) := by
  unfold qgT
  obtain ⟨h_0, h_1, h_2, h_3, h_4, h_5, h_6⟩ := h
  exact Sz.strStep h_0 (by omega) (by omega) fun p0 q0 => Sz.step (qrI (a := a.Pins) h_2 (by omega) (by omega)) fun r1 p1 q1 => Sz.step (qrr (a := a.Arcs) h_3 (by omega) (by omega)) fun r2 p2 q2 => Sz.step (qeF (a := a.Truth) h_4 (by omega) (by omega)) fun r3 p3 q3 => Sz.done p3 (by simp only [qgm]; omega)

theorem qq5 {a : (List qE)} {left : Int} (h : (rngL qiG) a) (h0 : 0 ≤ left) (h1 : left ≤ 1048576) : Sz (fun n => qii n a left) (fun r => r = left - (qg5 a : Int)) :=
  Sz.list (Lf := qdb a) (wt := fun x : qE => qgm x) (el := qgT) h0 h1 h.1 (fun x hx left p q => qrG (h.2 x hx) p q)
    (fun acc n => by simp only [qdb, qv (Nat.le_refl _), cond_false])
    (fun acc n j x hx => by
      have hj := (List.getElem?_eq_some_iff.1 hx).1
      have hl := h.1
      simp only [qdb, qt hj, cond_true, qaJ hx, Option.bind_some, qq (show j < 9223372036854775807 by omega)])
    (fun _ => rfl)

theorem qpd {a : qw} {left : Int} (h : qiN a) (h0 : 0 ≤ left) (h1 : left ≤ 1048576) : Sz (fun n => qfW n a left) (fun r => r = left - (qgi a : Int)) := by
  unfold qfW
  have h_0 := h
  exact Sz.step (qq5 (a := a.Cells) h_0 (by omega) (by omega)) fun r0 p0 q0 => Sz.done p0 (by simp only [qgi]; omega)

theorem qop {a : qr} {left : Int} (h : qfr a) (h0 : 0 ≤ left) (h1 : left ≤ 1048576) : Sz (fun n => qeE n a left) (fun r => r = left - (qc7 a : Int)) := by
  unfold qeE
  obtain ⟨h_0, h_1, h_2⟩ := h
  exact Sz.strStep h_0 (by omega) (by omega) fun p0 q0 => Sz.step (qeF (a := a.Nets) h_2 (by omega) (by omega)) fun r1 p1 q1 => Sz.done p1 (by simp only [qc7]; omega)

theorem qnG {a : (List qr)} {left : Int} (h : (rngL qfr) a) (h0 : 0 ≤ left) (h1 : left ≤ 1048576) : Sz (fun n => qgc n a left) (fun r => r = left - (qdA a : Int)) :=
  Sz.list (Lf := qbR a) (wt := fun x : qr => qc7 x) (el := qeE) h0 h1 h.1 (fun x hx left p q => qop (h.2 x hx) p q)
    (fun acc n => by simp only [qbR, qv (Nat.le_refl _), cond_false])
    (fun acc n j x hx => by
      have hj := (List.getElem?_eq_some_iff.1 hx).1
      have hl := h.1
      simp only [qbR, qt hj, cond_true, qaJ hx, Option.bind_some, qq (show j < 9223372036854775807 by omega)])
    (fun _ => rfl)

theorem qpf {a : (List ByteArray)} {left : Int} (h : (rngL rngS) a) (h0 : 0 ≤ left) (h1 : left ≤ 1048576) : Sz (fun n => qhq n a left) (fun r => r = left - (qgk a : Int)) :=
  Sz.list (Lf := qcs a) (wt := fun x : ByteArray => x.size) (el := fun _ (x : ByteArray) acc => some (W64 (acc - (x.size : Int)))) h0 h1 h.1 (fun x hx left p q => Sz.str (h.2 x hx) p q)
    (fun acc n => by simp only [qcs, qv (Nat.le_refl _), cond_false])
    (fun acc n j x hx => by
      have hj := (List.getElem?_eq_some_iff.1 hx).1
      have hl := h.1
      simp only [qcs, qt hj, cond_true, qaJ hx, Option.bind_some, qq (show j < 9223372036854775807 by omega)])
    (fun _ => rfl)

theorem qrY {a : qaw} {left : Int} (h : qiD a) (h0 : 0 ≤ left) (h1 : left ≤ 1048576) : Sz (fun n => qg0 n a left) (fun r => r = left - (qiz a : Int)) := by
  unfold qg0
  obtain ⟨h_0, h_1, h_2⟩ := h
  exact Sz.strStep h_0 (by omega) (by omega) fun p0 q0 => Sz.done p0 (by simp only [qiz]; omega)

theorem qrk {a : (List qaw)} {left : Int} (h : (rngL qiD) a) (h0 : 0 ≤ left) (h1 : left ≤ 1048576) : Sz (fun n => qil n a left) (fun r => r = left - (qg9 a : Int)) :=
  Sz.list (Lf := qdh a) (wt := fun x : qaw => qiz x) (el := qg0) h0 h1 h.1 (fun x hx left p q => qrY (h.2 x hx) p q)
    (fun acc n => by simp only [qdh, qv (Nat.le_refl _), cond_false])
    (fun acc n j x hx => by
      have hj := (List.getElem?_eq_some_iff.1 hx).1
      have hl := h.1
      simp only [qdh, qt hj, cond_true, qaJ hx, Option.bind_some, qq (show j < 9223372036854775807 by omega)])
    (fun _ => rfl)

theorem qpN {a : ql} {left : Int} (h : qjt a) (h0 : 0 ≤ left) (h1 : left ≤ 1048576) : Sz (fun n => qgs n a left) (fun r => r = left - (qf6 a : Int)) := by
  unfold qgs
  obtain ⟨h_0, h_1, h_2⟩ := h
  exact Sz.step (qnG (a := a.Instances) h_0 (by omega) (by omega)) fun r0 p0 q0 => Sz.step (qpf (a := a.Nets) h_1 (by omega) (by omega)) fun r1 p1 q1 => Sz.step (qrk (a := a.Ports) h_2 (by omega) (by omega)) fun r2 p2 q2 => Sz.done p2 (by simp only [qf6]; omega)

theorem qrx {a : qaj} {left : Int} (h : qix a) (h0 : 0 ≤ left) (h1 : left ≤ 1048576) : Sz (fun n => qgU n a left) (fun r => r = left - (qgn a : Int)) := by
  unfold qgU
  obtain ⟨h_0, h_1, h_2, h_3⟩ := h
  exact Sz.step (qeF (a := a.Parent) h_0 (by omega) (by omega)) fun r0 p0 q0 => Sz.step (qeF (a := a.Res) h_1 (by omega) (by omega)) fun r1 p1 q1 => Sz.step (qeF (a := a.Cap) h_2 (by omega) (by omega)) fun r2 p2 q2 => Sz.step (qeF (a := a.Sink) h_3 (by omega) (by omega)) fun r3 p3 q3 => Sz.done p3 (by simp only [qgn]; omega)

theorem qrh {a : (List qaj)} {left : Int} (h : (rngL qix) a) (h0 : 0 ≤ left) (h1 : left ≤ 1048576) : Sz (fun n => qih n a left) (fun r => r = left - (qho a : Int)) :=
  Sz.list (Lf := qdg a) (wt := fun x : qaj => qgn x) (el := qgU) h0 h1 h.1 (fun x hx left p q => qrx (h.2 x hx) p q)
    (fun acc n => by simp only [qdg, qv (Nat.le_refl _), cond_false])
    (fun acc n j x hx => by
      have hj := (List.getElem?_eq_some_iff.1 hx).1
      have hl := h.1
      simp only [qdg, qt hj, cond_true, qaJ hx, Option.bind_some, qq (show j < 9223372036854775807 by omega)])
    (fun _ => rfl)

theorem qq1 {a : qz} {left : Int} (h : qkf a) (h0 : 0 ≤ left) (h1 : left ≤ 1048576) : Sz (fun n => qhz n a left) (fun r => r = left - (qht a : Int)) := by
  unfold qhz
  obtain ⟨h_0, h_1, h_2⟩ := h
  exact Sz.step (qpd (a := a.Library) h_0 (by omega) (by omega)) fun r0 p0 q0 => Sz.step (qpN (a := a.Design) h_1 (by omega) (by omega)) fun r1 p1 q1 => Sz.step (qrh (a := a.Wires) h_2 (by omega) (by omega)) fun r2 p2 q2 => Sz.done p2 (by simp only [qht]; omega)

theorem qdr {a : (List Int)} (h : qcx a ≤ 1048576) : Ev (fun n => qaM n a) a := by
  have hl : a.length ≤ 1048576 := by simp only [qcx] at h; omega
  unfold qaM
  exact Ev.bindN (qg4 (by omega)) (Ev.bind (b := (a, (a.length : Int))) (qhQ (cp := fun _ x => some x) (fun _ _ => .done)
    (fun acc n => by simp only [qds, qv (Nat.le_refl _), cond_false])
    (fun acc n j x y hx hy => by
      have hj := (List.getElem?_eq_some_iff.1 hx).1
      simp only [qds, qt hj, cond_true, qaJ hx, qaJ hy, Option.bind_some, qq (show j < 9223372036854775807 by omega)])) .done)

theorem qqD {a : qJ} (h : qft a ≤ 1048576) : Ev (fun n => qgf n a) a := by
  unfold qgf
  simp only [qft] at h
  exact Ev.bind (qdr (a := a.Slews) (by omega)) (Ev.bind (qdr (a := a.Loads) (by omega)) (Ev.bind (qdr (a := a.Values) (by omega)) (.done)))

theorem qnu {a : (List qJ)} (h : qfC a ≤ 1048576) : Ev (fun n => qfJ n a) a := by
  have hl : a.length ≤ 1048576 := by simp only [qfC] at h; omega
  unfold qfJ
  exact Ev.bindN (qg4 (by omega)) (Ev.bind (b := (a, (a.length : Int))) (qhQ (cp := qgf) (fun x hx => qqD (by have := qdV (wt := fun x : qJ => qft x) hx; simp only [qfC] at h; omega))
    (fun acc n => by simp only [qdo, qv (Nat.le_refl _), cond_false])
    (fun acc n j x y hx hy => by
      have hj := (List.getElem?_eq_some_iff.1 hx).1
      simp only [qdo, qt hj, cond_true, qaJ hx, qaJ hy, Option.bind_some, qq (show j < 9223372036854775807 by omega)])) .done)

theorem qr8 {a : qah} (h : qiU a ≤ 1048576) : Ev (fun n => qhL n a) a := by
  unfold qhL
  simp only [qiU] at h
  exact Ev.bind (qnu (a := a.Delay) (by omega)) (Ev.bind (qnu (a := a.Slew) (by omega)) (.done))

theorem qrW {a : (List qah)} (h : qiE a ≤ 1048576) : Ev (fun n => qhW n a) a := by
  have hl : a.length ≤ 1048576 := by simp only [qiE] at h; omega
  unfold qhW
  exact Ev.bindN (qg4 (by omega)) (Ev.bind (b := (a, (a.length : Int))) (qhQ (cp := qhL) (fun x hx => qr8 (by have := qdV (wt := fun x : qah => qiU x) hx; simp only [qiE] at h; omega))
    (fun acc n => by simp only [qej, qv (Nat.le_refl _), cond_false])
    (fun acc n j x y hx hy => by
      have hj := (List.getElem?_eq_some_iff.1 hx).1
      simp only [qej, qt hj, cond_true, qaJ hx, qaJ hy, Option.bind_some, qq (show j < 9223372036854775807 by omega)])) .done)

theorem qsj {a : qaC} (_ : qjP a ≤ 1048576) : Ev (fun n => qhH n a) a := by
  unfold qhH
  exact .done

theorem qrK {a : (List qaC)} (h : qiv a ≤ 1048576) : Ev (fun n => qhZ n a) a := by
  have hl : a.length ≤ 1048576 := by simp only [qiv] at h; omega
  unfold qhZ
  exact Ev.bindN (qg4 (by omega)) (Ev.bind (b := (a, (a.length : Int))) (qhQ (cp := qhH) (fun x hx => qsj (by have := qdV (wt := fun x : qaC => qjP x) hx; simp only [qiv] at h; omega))
    (fun acc n => by simp only [qem, qv (Nat.le_refl _), cond_false])
    (fun acc n j x y hx hy => by
      have hj := (List.getElem?_eq_some_iff.1 hx).1
      simp only [qem, qt hj, cond_true, qaJ hx, qaJ hy, Option.bind_some, qq (show j < 9223372036854775807 by omega)])) .done)

theorem qrt {a : qE} (h : qgm a ≤ 1048576) : Ev (fun n => qgO n a) a := by
  unfold qgO
  simp only [qgm] at h
  exact Ev.bind (qrK (a := a.Pins) (by omega)) (Ev.bind (qrW (a := a.Arcs) (by omega)) (Ev.bind (qdr (a := a.Truth) (by omega)) (.done)))

theorem qqy {a : (List qE)} (h : qg5 a ≤ 1048576) : Ev (fun n => qhl n a) a := by
  have hl : a.length ≤ 1048576 := by simp only [qg5] at h; omega
  unfold qhl
  exact Ev.bindN (qg4 (by omega)) (Ev.bind (b := (a, (a.length : Int))) (qhQ (cp := qgO) (fun x hx => qrt (by have := qdV (wt := fun x : qE => qgm x) hx; simp only [qg5] at h; omega))
    (fun acc n => by simp only [qdZ, qv (Nat.le_refl _), cond_false])
    (fun acc n j x y hx hy => by
      have hj := (List.getElem?_eq_some_iff.1 hx).1
      simp only [qdZ, qt hj, cond_true, qaJ hx, qaJ hy, Option.bind_some, qq (show j < 9223372036854775807 by omega)])) .done)

theorem qpp {a : qw} (h : qgi a ≤ 1048576) : Ev (fun n => qfZ n a) a := by
  unfold qfZ
  simp only [qgi] at h
  exact Ev.bind (qqy (a := a.Cells) (by omega)) (.done)

theorem qoc {a : qr} (h : qc7 a ≤ 1048576) : Ev (fun n => qeG n a) a := by
  unfold qeG
  simp only [qc7] at h
  exact Ev.bind (qdr (a := a.Nets) (by omega)) (.done)

theorem qnU {a : (List qr)} (h : qdA a ≤ 1048576) : Ev (fun n => qfd n a) a := by
  have hl : a.length ≤ 1048576 := by simp only [qdA] at h; omega
  unfold qfd
  exact Ev.bindN (qg4 (by omega)) (Ev.bind (b := (a, (a.length : Int))) (qhQ (cp := qeG) (fun x hx => qoc (by have := qdV (wt := fun x : qr => qc7 x) hx; simp only [qdA] at h; omega))
    (fun acc n => by simp only [qco, qv (Nat.le_refl _), cond_false])
    (fun acc n j x y hx hy => by
      have hj := (List.getElem?_eq_some_iff.1 hx).1
      simp only [qco, qt hj, cond_true, qaJ hx, qaJ hy, Option.bind_some, qq (show j < 9223372036854775807 by omega)])) .done)

theorem qoX {a : (List ByteArray)} (h : qgk a ≤ 1048576) : Ev (fun n => qfV n a) a := by
  have hl : a.length ≤ 1048576 := by simp only [qgk] at h; omega
  unfold qfV
  exact Ev.bindN (qg4 (by omega)) (Ev.bind (b := (a, (a.length : Int))) (qhQ (cp := fun _ x => some x) (fun _ _ => .done)
    (fun acc n => by simp only [qc1, qv (Nat.le_refl _), cond_false])
    (fun acc n j x y hx hy => by
      have hj := (List.getElem?_eq_some_iff.1 hx).1
      simp only [qc1, qt hj, cond_true, qaJ hx, qaJ hy, Option.bind_some, qq (show j < 9223372036854775807 by omega)])) .done)

theorem qrv {a : qaw} (_ : qiz a ≤ 1048576) : Ev (fun n => qgY n a) a := by
  unfold qgY
  exact .done

theorem qrn {a : (List qaw)} (h : qg9 a ≤ 1048576) : Ev (fun n => qha n a) a := by
  have hl : a.length ≤ 1048576 := by simp only [qg9] at h; omega
  unfold qha
  exact Ev.bindN (qg4 (by omega)) (Ev.bind (b := (a, (a.length : Int))) (qhQ (cp := qgY) (fun x hx => qrv (by have := qdV (wt := fun x : qaw => qiz x) hx; simp only [qg9] at h; omega))
    (fun acc n => by simp only [qdX, qv (Nat.le_refl _), cond_false])
    (fun acc n j x y hx hy => by
      have hj := (List.getElem?_eq_some_iff.1 hx).1
      simp only [qdX, qt hj, cond_true, qaJ hx, qaJ hy, Option.bind_some, qq (show j < 9223372036854775807 by omega)])) .done)

theorem qpM {a : ql} (h : qf6 a ≤ 1048576) : Ev (fun n => qgv n a) a := by
  unfold qgv
  simp only [qf6] at h
  exact Ev.bind (qnU (a := a.Instances) (by omega)) (Ev.bind (qoX (a := a.Nets) (by omega)) (Ev.bind (qrn (a := a.Ports) (by omega)) (.done)))

theorem qr0 {a : qaj} (h : qgn a ≤ 1048576) : Ev (fun n => qgP n a) a := by
  unfold qgP
  simp only [qgn] at h
  exact Ev.bind (qdr (a := a.Parent) (by omega)) (Ev.bind (qdr (a := a.Res) (by omega)) (Ev.bind (qdr (a := a.Cap) (by omega)) (Ev.bind (qdr (a := a.Sink) (by omega)) (.done))))

theorem qrg {a : (List qaj)} (h : qho a ≤ 1048576) : Ev (fun n => qhf n a) a := by
  have hl : a.length ≤ 1048576 := by simp only [qho] at h; omega
  unfold qhf
  exact Ev.bindN (qg4 (by omega)) (Ev.bind (b := (a, (a.length : Int))) (qhQ (cp := qgP) (fun x hx => qr0 (by have := qdV (wt := fun x : qaj => qgn x) hx; simp only [qho] at h; omega))
    (fun acc n => by simp only [qdY, qv (Nat.le_refl _), cond_false])
    (fun acc n j x y hx hy => by
      have hj := (List.getElem?_eq_some_iff.1 hx).1
      simp only [qdY, qt hj, cond_true, qaJ hx, qaJ hy, Option.bind_some, qq (show j < 9223372036854775807 by omega)])) .done)

theorem qml {a : qz} (h : qht a ≤ 1048576) : Ev (fun n => qfx n a) a := by
  unfold qfx
  simp only [qht] at h
  exact Ev.bind (qpp (a := a.Library) (by omega)) (Ev.bind (qpM (a := a.Design) (by omega)) (Ev.bind (qrg (a := a.Wires) (by omega)) (.done)))

end Go.Fw


namespace Go.Fw
open Go
set_option maxRecDepth 100000


theorem qer {n : Nat} {x lo hi : Int} : qaA n x lo hi = some (inI x lo hi) := by
  simp only [qaA, qjI, qk1]; rfl
theorem qed {n : Nat} {x lo hi : Int} : qaY n x lo hi = some (inI x lo hi) := by
  simp only [qaY, qjI, qk1]; rfl

/-! ### Names -/

/-- The byte at a place, as a number. -/
def bt (s : ByteArray) (j : Nat) : Nat := (s.data.toList.getD j 0).toNat
theorem qrm {s : ByteArray} {j : Nat} (h : j < s.size) : atS s (j : Int) = some (bt s j : Int) := by
  have h' : j < s.data.size := h
  have hl : j < s.data.toList.length := by simpa using h'
  unfold atS
  rw [if_pos (by omega), Int.toNat_natCast]
  have : s[j]? = some (s.data.toList.getD j 0) := by
    rw [getElem?_pos s j h, List.getD_eq_getElem?_getD, List.getElem?_eq_getElem hl]
    rfl
  rw [this]
  rfl

def letB (b : Nat) : Bool := decide (97 ≤ b) && decide (b ≤ 122)
def digB (b : Nat) : Bool := decide (48 ≤ b) && decide (b ≤ 57)
def chB (s : ByteArray) (j : Nat) : Bool := letB (bt s j) || digB (bt s j) && decide (0 < j)
def nameB (s : ByteArray) : Bool := (decide (1 ≤ s.size) && decide (s.size ≤ 8)) && allN (chB s) s.size

theorem qkD {s : ByteArray} (h : okS s) : Ev (fun n => qfl n s) (nameB s) := by
  unfold okS at h
  have hL : Ev (fun n => qcB s n 0) (bif allN (chB s) s.size then .nxt (s.size : Int) else .ret false) := by
    refine qe1 ?_ (fun j hj X hX => ?_)
    · exact Ev.succ (by simp only [qcB, qv (Nat.le_refl _), cond_false]; exact .done)
    · refine Ev.succ ?_
      simp only [qcB, qt hj, cond_true, qrm hj, Option.bind_some, qjI, qk1, qq (show j < 9223372036854775807 by omega)]
      have e1 : (decide ((bt s j : Int) ≥ 97) && decide ((bt s j : Int) ≤ 122)) = letB (bt s j) := by unfold letB; rw [Bool.eq_iff_iff]; simp; omega
      have e2 : (decide ((bt s j : Int) ≥ 48) && decide ((bt s j : Int) ≤ 57)) = digB (bt s j) := by unfold digB; rw [Bool.eq_iff_iff]; simp; omega
      have e3 : decide ((j : Int) > 0) = decide (0 < j) := by rw [Bool.eq_iff_iff]; simp
      rw [e1, e2, e3]
      unfold chB
      cases letB (bt s j) <;> cases digB (bt s j) <;> cases decide (0 < j) <;> first | exact hX | exact .done
  unfold qfl
  refine Ev.cast (r := bif allN (chB s) s.size then (decide (1 ≤ s.size) && decide (s.size ≤ 8)) else false) (Ev.bindB hL (fun _ => ?_) (fun _ => .done)) ?_
  · simp only [qjI, qk1]
    exact Ev.now (by congr 1; rw [Bool.eq_iff_iff]; simp; omega)
  · unfold nameB
    cases allN (chB s) s.size <;> simp

def cutset : List UInt8 := [97, 98, 99, 100, 101, 102, 103, 104, 105, 106, 107, 108, 109, 110, 111, 112, 113, 114, 115, 116, 117, 118, 119, 120, 121, 122, 48, 49, 50, 51, 52, 53, 54, 55, 56, 57]
theorem qmK (b : UInt8) : cutset.contains b = (letB b.toNat || digB b.toNat) := by
  have h0 : (List.range 256).all (fun m => cutset.contains (UInt8.ofNat m) == (letB (UInt8.ofNat m).toNat || digB (UInt8.ofNat m).toNat)) = true := by kernel_rfl
  have h := List.all_eq_true.1 h0 b.toNat (List.mem_range.2 b.toNat_lt)
  rw [beq_iff_eq] at h
  simpa using h
def letters : List UInt8 := [97, 98, 99, 100, 101, 102, 103, 104, 105, 106, 107, 108, 109, 110, 111, 112, 113, 114, 115, 116, 117, 118, 119, 120, 121, 122]
theorem qo0 (m : Nat) (hm : m < 256) : decide ((Lib.indexByte letters m.toUInt8) ≥ 0) = letB m := by
  have h0 : (List.range 256).all (fun m => decide ((Lib.indexByte letters m.toUInt8) ≥ 0) == letB m) = true := by kernel_rfl
  have h := List.all_eq_true.1 h0 m (List.mem_range.2 hm)
  rwa [beq_iff_eq] at h

theorem qmR {α : Type} {p : α → Bool} {l : List α} : l.dropWhile p = [] ↔ ∀ x, x ∈ l → p x = true := by
  induction l with
  | nil => simp
  | cons y l ih =>
    rw [List.dropWhile_cons]
    by_cases h : p y = true
    · rw [if_pos h, ih]; simp [h]
    · rw [if_neg h]; simp [h]

theorem qmV {α : Type} {p : α → Bool} {l : List α} (h : ∀ x, x ∈ l.dropWhile p → p x = true) : ∀ x, x ∈ l → p x = true := by
  induction l with
  | nil => simp
  | cons y l ih =>
    rw [List.dropWhile_cons] at h
    by_cases hy : p y = true
    · rw [if_pos hy] at h
      intro x hx
      rcases List.mem_cons.1 hx with rfl | hx
      · exact hy
      · exact ih h x hx
    · rw [if_neg hy] at h
      exact h

theorem qqv {l cs : List UInt8} : Lib.trimS l cs = [] ↔ ∀ x, x ∈ l → cs.contains x = true := by
  unfold Lib.trimS Lib.trimRightS Lib.trimLeftS
  rw [qmR]
  constructor
  · intro h x hx
    exact qmV (p := (cs.contains ·)) (l := l.reverse) (fun y hy => h y (List.mem_reverse.2 hy)) x (List.mem_reverse.2 hx)
  · intro h x hx
    exact h x (List.mem_reverse.1 ((List.dropWhile_suffix _).subset (List.mem_reverse.1 hx)))

theorem qgr {a b : ByteArray} : (a.toList == b.toList) = decide (a = b) := by
  rw [Bool.eq_iff_iff, beq_iff_eq, decide_eq_true_iff]
  constructor
  · intro h
    exact ByteArray.ext (by have := congrArg List.toArray h; simpa [ByteArray.toList_eq] using this)
  · rintro rfl; rfl
end Go.Fw


namespace Go.Fw
open Go
set_option maxRecDepth 100000

theorem qr1 {s : ByteArray} {j : Nat} (h : j < s.data.toList.length) : bt s j = (s.data.toList[j]).toNat := by
  unfold bt; rw [List.getD_eq_getElem?_getD, List.getElem?_eq_getElem h]; rfl
theorem qsm {s : ByteArray} {j : Nat} : bt s j < 256 := UInt8.toNat_lt _

theorem qni {n : Nat} {s : ByteArray} (h : okS s) : qgZ n s = some (nameB s) := by
  unfold okS at h
  have hl : s.data.toList.length = s.size := by simp
  simp only [qgZ, qed, Option.bind_some]
  cases hI : inI (s.size : Int) 1 8 with
  | false =>
    have hs : (decide (1 ≤ s.size) && decide (s.size ≤ 8)) = false := by rw [qqm] at hI; rw [Bool.and_eq_false_iff, decide_eq_false_iff_not, decide_eq_false_iff_not]; omega
    simp [nameB, hs]
  | true =>
    have hs : 1 ≤ s.size ∧ s.size ≤ 8 := by rw [qc5] at hI; omega
    have hT : qhw n s (⟨#[97, 98, 99, 100, 101, 102, 103, 104, 105, 106, 107, 108, 109, 110, 111, 112, 113, 114, 115, 116, 117, 118, 119, 120, 121, 122, 48, 49, 50, 51, 52, 53, 54, 55, 56, 57]⟩ : ByteArray) = some ⟨(Lib.trimS s.data.toList cutset).toArray⟩ := by
      unfold qhw
      rw [if_pos ⟨by omega, by decide, by decide⟩]
      rfl
    rw [hT]
    simp only [cond_true, Option.bind_some]
    have hE : (((⟨(Lib.trimS s.data.toList cutset).toArray⟩ : ByteArray).toList == (⟨#[]⟩ : ByteArray).toList)) = allN (fun j => letB (bt s j) || digB (bt s j)) s.size := by
      rw [qgr, Bool.eq_iff_iff, decide_eq_true_iff, qa1]
      have : ((⟨(Lib.trimS s.data.toList cutset).toArray⟩ : ByteArray) = ⟨#[]⟩) ↔ Lib.trimS s.data.toList cutset = [] := by
        constructor
        · intro he
          have := congrArg (fun x : ByteArray => x.data.toList) he
          simpa using this
        · intro he; rw [he]
      rw [this, qqv]
      constructor
      · intro hx j hj
        have hj' : j < s.data.toList.length := by omega
        have := hx _ (List.getElem_mem hj')
        rw [qmK, ← qr1 hj'] at this
        exact this
      · intro hx x hm
        obtain ⟨j, hj, rfl⟩ := List.getElem_of_mem hm
        have := hx j (by omega)
        rw [qmK, ← qr1 hj]
        exact this
    rw [hE]
    have h0 : atS s 0 = some (bt s 0 : Int) := qrm (j := 0) (by omega)
    have hI2 : decide (Lib.indexByte letters (bt s 0 : Int).toNat.toUInt8 ≥ 0) = letB (bt s 0) := by
      rw [Int.toNat_natCast]; exact qo0 _ qsm
    have hF : ∀ b : Bool, (bif b then (atS s 0).bind fun y1 => (qfN n (⟨#[97, 98, 99, 100, 101, 102, 103, 104, 105, 106, 107, 108, 109, 110, 111, 112, 113, 114, 115, 116, 117, 118, 119, 120, 121, 122]⟩ : ByteArray) (⟨y1⟩ : IntK .u8)).bind fun r3 => some (decide (r3 ≥ 0)) else some false) = some (b && letB (bt s 0)) := by
      intro b
      cases b with
      | false => rfl
      | true =>
        rw [h0]
        simp only [cond_true, Option.bind_some, qfN, Bool.true_and]
        exact congrArg some hI2
    rw [hF]
    congr 1
    have hs' : (decide (1 ≤ s.size) && decide (s.size ≤ 8)) = true := by simp [hs]
    unfold nameB
    rw [hs', Bool.true_and, Bool.eq_iff_iff, Bool.and_eq_true, qa1, qa1]
    simp only [chB, Bool.or_eq_true, Bool.and_eq_true, decide_eq_true_eq]
    constructor
    · rintro ⟨h1, h2⟩ j hj
      rcases Nat.eq_zero_or_pos j with rfl | hp
      · exact .inl h2
      · exact (h1 j hj).imp id (fun h => ⟨h, hp⟩)
    · intro h1
      refine ⟨fun j hj => (h1 j hj).imp id (fun h => h.1), ?_⟩
      rcases h1 0 (by omega) with h2 | h2
      · exact h2
      · omega

/-! ### Lists of names -/

def strAt (xs : List ByteArray) (j : Nat) : ByteArray := xs.getD j ByteArray.empty
theorem qkW {xs : List ByteArray} {j : Nat} (h : j < xs.length) : strAt xs j = xs[j] := by simp [strAt, h]
theorem ql8 {xs : List ByteArray} {j : Nat} (h : j < xs.length) : idx xs (j : Int) = some (strAt xs j) := by rw [qgN h, qkW h]
def neB (xs : List ByteArray) (j i : Nat) : Bool := !decide (strAt xs i = strAt xs j)
def namesB (xs : List ByteArray) : Bool := allN (fun j => nameB (strAt xs j) && allN (neB xs j) j) xs.length

theorem qjZ {xs : List ByteArray} (h : okL okS xs) : Ev (fun n => qe3 n xs) (namesB xs) := by
  have hl := h.len
  have hL2 : ∀ j, j < xs.length → Ev (fun n => qcO xs (j : Int) n 0) (bif allN (neB xs j) j then .nxt (j : Int) else .ret false) := by
    intro j hj
    refine qe1 ?_ (fun i hi X hX => Ev.succ ?_)
    · exact Ev.succ (by simp only [qcO, qv (Nat.le_refl _), cond_false]; exact .done)
    · simp only [qcO, qt hi, cond_true, ql8 (show i < xs.length by omega), ql8 hj, Option.bind_some, qgr, qq (show i < 9223372036854775807 by omega)]
      unfold neB
      cases decide (strAt xs i = strAt xs j)
      · exact hX
      · exact .done
  have hL1 : Ev (fun n => qcJ xs n 0) (bif namesB xs then .nxt (xs.length : Int) else .ret false) := by
    refine qe1 ?_ (fun j hj X hX => Ev.succ ?_)
    · exact Ev.succ (by simp only [qcJ, qv (Nat.le_refl _), cond_false]; exact .done)
    · simp only [qcJ, qt hj, cond_true, ql8 hj, Option.bind_some, qq (show j < 9223372036854775807 by omega)]
      refine Ev.bind (qkD (by rw [qkW hj]; exact h.at hj)) ?_
      cases nameB (strAt xs j)
      · exact .done
      · refine Ev.ff rfl (Ev.bind (hL2 j hj) ?_)
        cases allN (neB xs j) j
        · exact .done
        · exact hX
  unfold qe3
  refine Ev.bind hL1 ?_
  cases namesB xs <;> exact .done

theorem qoE {xs : List ByteArray} {v : ByteArray} (hl : xs.length ≤ 1048576) : Ev (fun n => qd4 n xs v) (ixL (fun x => decide (v = x)) xs) :=
  qei (fin := (xs.length : Int)) (Lf := qbr xs v) (pf := fun _ x => some (decide (v = x))) (fun _ _ => .done)
    (fun n => by simp only [qbr, qv (Nat.le_refl _), cond_false])
    (fun n j x hx => by
      have hj := (List.getElem?_eq_some_iff.1 hx).1
      simp only [qbr, qt hj, cond_true, qaJ hx, Option.bind_some, qgr, qq (show j < 9223372036854775807 by omega)])
    (fun n => by unfold qd4; congr 1; funext o; cases o <;> rfl)

theorem qmE {xs : List ByteArray} {v : ByteArray} (hl : xs.length ≤ 1048576) : Ev (fun n => qcX n xs v) (xs.any fun x => decide (v = x)) := by
  unfold qcX
  exact Ev.bind (qoE hl) (Ev.now (by rw [qia]))

theorem qh4 {xs : List ByteArray} (h : okL okS xs) : Ev (fun n => qdv n xs) (namesB xs) := by
  have hl := h.len
  have hL1 : Ev (fun n => qcN xs n 0) (bif namesB xs then .nxt (xs.length : Int) else .ret false) := by
    refine qe1 ?_ (fun j hj X hX => Ev.succ ?_)
    · exact Ev.succ (by simp only [qcN, qv (Nat.le_refl _), cond_false]; exact .done)
    · have hs : subS xs 0 (j : Int) = some (xs.take j) := by
        unfold subS
        rw [if_pos ⟨by omega, by omega, by omega⟩]
        simp
      simp only [qcN, qt hj, cond_true, ql8 hj, Option.bind_some, hs, qni (show okS (strAt xs j) by rw [qkW hj]; exact h.at hj), qq (show j < 9223372036854775807 by omega)]
      cases nameB (strAt xs j)
      · exact .done
      · refine Ev.ff rfl (Ev.bind (qmE (by simp; omega)) ?_)
        have : ((xs.take j).any fun x => decide (strAt xs j = x)) = !allN (neB xs j) j := by
          rw [qoi (d := ByteArray.empty)]
          congr 1
          rw [List.length_take, Nat.min_eq_left (by omega)]
          refine qgK (fun i hi => ?_)
          unfold neB strAt
          congr 1
          have : (xs.take j).getD i ByteArray.empty = xs.getD i ByteArray.empty := by simp [List.getD_eq_getElem?_getD, hi]
          rw [this]
          exact decide_eq_decide.2 eq_comm
        rw [this]
        cases allN (neB xs j) j
        · exact .done
        · exact hX
  unfold qdv
  refine Ev.bind hL1 ?_
  cases namesB xs <;> exact .done
end Go.Fw


namespace Go.Fw
open Go
set_option maxRecDepth 100000

theorem qmQ {n : Nat} {x lo hi : Int} : qe9 n x lo hi = some (!inI x lo hi) := by simp only [qe9, qed, Option.bind_some]

theorem qeL {xs : List Int} {lo hi : Int} (hl : xs.length ≤ 1048576) : Ev (fun n => qby n xs lo hi) (xs.all fun x => inI x lo hi) := by
  have h1 : Ev (fun n => qaL n xs lo hi) (ixL (fun x => !inI x lo hi) xs) :=
    qei (fin := (xs.length : Int)) (Lf := qV xs lo hi) (pf := fun _ x => some (!inI x lo hi)) (fun _ _ => .done)
      (fun n => by simp only [qV, qv (Nat.le_refl _), cond_false])
      (fun n j x hx => by
        have hj := (List.getElem?_eq_some_iff.1 hx).1
        simp only [qV, qt hj, cond_true, qaJ hx, Option.bind_some, qmQ, qq (show j < 9223372036854775807 by omega)])
      (fun n => by unfold qaL; congr 1; funext o; cases o <;> rfl)
  unfold qby qa2
  refine Ev.bind (Ev.bind h1 (Ev.now rfl)) (Ev.now ?_)
  rw [qia, qk2]

def stepB (xs : List Int) (j : Nat) : Bool := decide (j = 0) || decide (at0 xs (j - 1) < at0 xs j)
def incB (xs : List Int) : Bool := allN (stepB xs) xs.length

theorem qid {xs : List Int} (hl : xs.length ≤ 1048576) : Ev (fun n => qc4 n xs) (incB xs) := by
  have hL : Ev (fun n => qa6 xs n 1) (bif incB xs then .nxt (max 1 xs.length : Int) else .ret false) := by
    by_cases h0 : xs.length = 0
    · have hb : incB xs = true := by unfold incB; rw [h0]; rfl
      rw [hb]
      refine Ev.succ ?_
      have : decide ((1 : Int) < (xs.length : Int)) = false := by rw [h0]; decide
      simp only [qa6, this, cond_false]
      exact Ev.now (by rw [h0]; rfl)
    · have := qnL (Lf := qa6 xs) (len := xs.length) (i0 := 1) (f := stepB xs) (bad := false) (fin := .nxt (max 1 xs.length : Int)) (by omega)
        (Ev.succ (by
          simp only [qa6, qv (Nat.le_refl _), cond_false]
          exact Ev.now (by congr 2; omega)))
        (fun j h1 hj X hX => Ev.succ (by
          simp only [qa6, qt hj, cond_true, qq (show j < 9223372036854775807 by omega), show (j : Int) - 1 = ((j - 1 : Nat) : Int) by omega, qfi (show -9223372036854775808 ≤ ((j - 1 : Nat) : Int) by omega) (by omega), qbp (show j - 1 < xs.length by omega), qbp hj, Option.bind_some]
          unfold stepB
          by_cases hc : at0 xs (j - 1) < at0 xs j
          · have e1 : decide (at0 xs (j - 1) ≥ at0 xs j) = false := by simp; omega
            rw [e1]; simp only [hc, decide_true, Bool.or_true, cond_true, cond_false]; exact hX
          · have e1 : decide (at0 xs (j - 1) ≥ at0 xs j) = true := by simp; omega
            have e2 : decide (j = 0) = false := by simp; omega
            rw [e1, e2]; simp only [hc, decide_false, Bool.or_self, cond_true, cond_false]; exact .done))
      have e : allN (fun j => stepB xs (1 + j)) (xs.length - 1) = incB xs := by
        unfold incB
        rw [Bool.eq_iff_iff, qa1, qa1]
        constructor
        · intro h j hj
          cases j with
          | zero => rfl
          | succ j => have := h j (by omega); rwa [Nat.add_comm] at this
        · intro h j hj
          exact h (1 + j) (by omega)
      rw [e] at this
      exact this
  unfold qc4
  refine Ev.bind hL ?_
  cases incB xs <;> exact .done

def lenB {α : Type} (xs : List α) (lo hi : Nat) : Bool := decide (lo ≤ xs.length) && decide (xs.length ≤ hi)
theorem ql7 {α : Type} {xs : List α} {lo hi : Nat} : inI (xs.length : Int) (lo : Int) (hi : Int) = lenB xs lo hi := by
  unfold inI lenB; rw [Bool.eq_iff_iff]; simp
def axisB (xs : List Int) : Bool := lenB xs 1 4 && ((xs.all fun x => inI x 0 100000) && incB xs)

theorem qnn {xs : List Int} (hl : xs.length ≤ 1048576) : Ev (fun n => qgS n xs) (axisB xs) := by
  simp only [qgS, qan, Option.bind_some, qed, show inI (xs.length : Int) 1 4 = lenB xs 1 4 from ql7 (lo := 1) (hi := 4)]
  unfold axisB
  cases lenB xs 1 4
  · exact .done
  · refine Ev.tt rfl (Ev.bind (qeL hl) ?_)
    cases (xs.all fun x => inI x 0 100000)
    · exact .done
    · exact Ev.tt rfl (Ev.bind (qid hl) .done)

theorem qmF {xs : List Int} (hl : xs.length ≤ 1048576) : Ev (fun n => qgb n xs) (axisB xs) := by
  have hL : Ev (fun n => qcE xs n 0) (bif allN (fun j => inI (at0 xs j) 0 100000 && stepB xs j) xs.length then .nxt (xs.length : Int) else .ret false) := by
    refine qe1 ?_ (fun j hj X hX => Ev.succ ?_)
    · exact Ev.succ (by simp only [qcE, qv (Nat.le_refl _), cond_false]; exact .done)
    · simp only [qcE, qt hj, cond_true, qbp hj, Option.bind_some, qer, qq (show j < 9223372036854775807 by omega)]
      cases inI (at0 xs j) 0 100000
      · exact .done
      · simp only [Bool.not_true, cond_false, Bool.true_and]
        unfold stepB
        by_cases h0 : j = 0
        · subst h0
          exact Ev.ff (by decide) hX
        · simp only [show (j : Int) - 1 = ((j - 1 : Nat) : Int) by omega, qfi (show -9223372036854775808 ≤ ((j - 1 : Nat) : Int) by omega) (by omega), qbp (show j - 1 < xs.length by omega), Option.bind_some]
          have e2 : decide (j = 0) = false := by simp; omega
          have e3 : decide ((j : Int) > 0) = true := by simp; omega
          rw [e2, e3]
          simp only [cond_true, Bool.false_or]
          by_cases hc : at0 xs (j - 1) < at0 xs j
          · have e1 : decide (at0 xs (j - 1) ≥ at0 xs j) = false := by simp; omega
            rw [e1]; simp only [hc, decide_true, cond_true, cond_false]; exact hX
          · have e1 : decide (at0 xs (j - 1) ≥ at0 xs j) = true := by simp; omega
            rw [e1]; simp only [hc, decide_false, cond_true, cond_false]; exact .done
  have e : axisB xs = (allN (fun j => inI (at0 xs j) 0 100000 && stepB xs j) xs.length && lenB xs 1 4) := by
    unfold axisB incB
    rw [qit, qgu (d := 0), Bool.and_comm]
    rfl
  rw [e]
  unfold qgb
  refine Ev.bind hL ?_
  cases allN (fun j => inI (at0 xs j) 0 100000 && stepB xs j) xs.length
  · exact .done
  · simp only [cond_true, qjI, qk1, Bool.true_and]
    exact Ev.now (by congr 1; unfold lenB; rw [Bool.eq_iff_iff]; simp; omega)

def tableB (t : qJ) : Bool := axisB t.Slews && (axisB t.Loads && (decide (t.Values.length = t.Slews.length * t.Loads.length) && (t.Values.all fun x => inI x (-1000000) 1000000)))

theorem qpz {a b : Nat} (ha : a ≤ 1048576) (hb : b ≤ 1048576) : W64 ((a : Int) * (b : Int)) = ((a * b : Nat) : Int) := by
  have h : a * b ≤ 1048576 * 1048576 := Nat.mul_le_mul ha hb
  have e : (a : Int) * (b : Int) = ((a * b : Nat) : Int) := by simp
  rw [e]
  exact qfi (by omega) (by omega)

theorem qo3 {t : qJ} (h : qhu t) : Ev (fun n => qhc n t) (tableB t) := by
  unfold qhc tableB
  refine Ev.bind (qnn h.Slews.len) ?_
  cases axisB t.Slews
  · exact .done
  · refine Ev.tt rfl (Ev.bind (qnn h.Loads.len) ?_)
    cases axisB t.Loads
    · exact .done
    · rw [qpz h.Slews.len h.Loads.len]
      have e : (((t.Values.length : Nat) : Int) == ((t.Slews.length * t.Loads.length : Nat) : Int)) = decide (t.Values.length = t.Slews.length * t.Loads.length) := by rw [Bool.eq_iff_iff]; simp; omega
      rw [e]
      cases decide (t.Values.length = t.Slews.length * t.Loads.length)
      · exact .done
      · exact Ev.tt rfl (Ev.tt rfl (Ev.bind (qeL h.Values.len) .done))

theorem qok {t : qJ} (h : qhu t) : Ev (fun n => qhx n t) (tableB t) := by
  have hl := h.Values.len
  have hL : Ev (fun n => qdj t n 0) (bif (t.Values.all fun x => inI x (-1000000) 1000000) then .nxt (t.Values.length : Int) else .ret false) :=
    qj1 (fun n => by simp only [qdj, qv (Nat.le_refl _), cond_false]) (fun j hj X hX => by
      simp only [qdj, qt hj, cond_true, qgN hj, Option.bind_some, qer, qq (show j < 9223372036854775807 by omega)]
      cases inI t.Values[j] (-1000000) 1000000
      · exact .done
      · exact hX)
  unfold qhx tableB
  refine Ev.bind (b := !(axisB t.Slews && (axisB t.Loads && decide (t.Values.length = t.Slews.length * t.Loads.length)))) ?_ ?_
  · refine Ev.bind (qmF h.Slews.len) ?_
    cases axisB t.Slews
    · exact .done
    · refine Ev.ff rfl (Ev.bind (qmF h.Loads.len) ?_)
      cases axisB t.Loads
      · exact .done
      · refine Ev.ff rfl (Ev.now ?_)
        rw [qpz h.Slews.len h.Loads.len]
        congr 1
        rw [Bool.eq_iff_iff]; simp; omega
  · cases axisB t.Slews
    · exact .done
    · cases axisB t.Loads
      · exact .done
      · cases decide (t.Values.length = t.Slews.length * t.Loads.length)
        · exact .done
        · refine Ev.ff rfl (Ev.bind hL ?_)
          cases (t.Values.all fun x => inI x (-1000000) 1000000) <;> exact .done
end Go.Fw


namespace Go.Fw
open Go
set_option maxRecDepth 100000

instance : Inhabited qaC := ⟨⟨ByteArray.empty, 0, 0, false⟩⟩
instance : Inhabited qJ := ⟨⟨[], [], []⟩⟩
instance : Inhabited qah := ⟨⟨0, 0, 0, 0, [], []⟩⟩
instance : Inhabited qE := ⟨⟨ByteArray.empty, 0, [], [], [], 0, 0⟩⟩
instance : Inhabited qr := ⟨⟨ByteArray.empty, 0, []⟩⟩
instance : Inhabited qaw := ⟨⟨ByteArray.empty, 0, 0⟩⟩
instance : Inhabited qaj := ⟨⟨[], [], [], []⟩⟩

theorem lastE {j m : Nat} (h : j < m) (hm : m ≤ 1048576) : ((j : Int) == W64 ((m : Int) - 1)) = decide (j + 1 = m) := by
  rcases qrB h with h | h
  · exact h
  · omega
theorem qio {α : Type} [Inhabited α] {xs : List α} {g : α → ByteArray} {j : Nat} (h : j < xs.length) : strAt (xs.map g) j = g (gt xs j) := by
  rw [qkW (by simpa using h), qiF h]; simp
/-- Names that differ, by the list that they are taken from. -/
theorem qke {α : Type} {xs : List α} {g : α → ByteArray} {ok : α → Prop} (h : okL ok xs) (hg : ∀ x, ok x → okS (g x)) : okL okS (xs.map g) :=
  ⟨by rw [List.length_map]; exact h.1, fun y hy => by
    obtain ⟨x, hx, rfl⟩ := List.mem_map.1 hy
    exact hg x (h.2 x hx)⟩
theorem qjj {α β : Type} {xs : List α} {g : α → β} {j : Nat} (h : j < xs.length) (hl : xs.length ≤ 1048576) {y : β} : appS ((xs.take j).map g) [y] = some ((xs.take j).map g ++ [y]) :=
  qdS (by simp; omega)

/-! ### Pins -/

def pinB (ps : List qaC) (j : Nat) : Bool :=
  bif decide (j + 1 = ps.length) then ((gt ps j).Dir == 2) && (((gt ps j).Cap == 0) && !(gt ps j).Clock) else ((gt ps j).Dir == 1) && inI (gt ps j).Cap 0 500
def pinsB (ps : List qaC) : Bool := allN (pinB ps) ps.length && (lenB ps 2 5 && namesB (ps.map qaC.Name))
def clkN (ps : List qaC) (j : Nat) : Nat := cntP (fun i => (gt ps i).Clock) j

theorem qo1 {ps : List qaC} (h : okL qjT ps) : Ev (fun n => qhs n ps) (pinsB ps) := by
  have hl := h.len
  have hL : Ev (fun n => qcc ps n ([] : List ByteArray) 0) (bif allN (pinB ps) ps.length then .nxt (ps.map qaC.Name, (ps.length : Int)) else .ret false) := by
    refine loopN (Lf := qcc ps) (S := fun j => (ps.take j).map qaC.Name) (pinB ps) (fun n => ?_) (fun j hj hp X hX => ?_)
    · simp only [qcc, qv (Nat.le_refl _), cond_false, List.take_length]
    · simp only [qcc, qt hj, cond_true, qaq hj, Option.bind_some, qjj hj hl, qfu (g := qaC.Name) hj, lastE hj hl, bne, qbA, qed, qq (show j < 9223372036854775807 by omega)]
      generalize hc : pinB ps j = c at hX ⊢
      unfold pinB at hc
      cases hd : decide (j + 1 = ps.length)
      · rw [hd] at hc
        simp only [cond_false] at hc ⊢
        subst hc
        exact Ev.okP (fun h1 => Ev.okP1 (fun h2 => hX (by rw [h1, h2]; rfl)))
      · rw [hd] at hc
        simp only [cond_true] at hc ⊢
        subst hc
        refine Ev.okP (fun h1 => Ev.okP (fun h2 => Ev.chkP1 (fun h3 => hX (by rw [h1, h2, h3]; rfl))))
  unfold qhs pinsB
  refine Ev.bind hL ?_
  cases allN (pinB ps) ps.length
  · exact .done
  · simp only [cond_true, qbG, qed, Option.bind_some, show inI (ps.length : Int) 2 5 = lenB ps 2 5 from ql7 (lo := 2) (hi := 5), Bool.true_and]
    exact Ev.andP (fun _ => Ev.last (qh4 (qke h (fun x hx => hx.Name))))

/-- A check of the reference, one pin. -/
def pinS (ps : List qaC) (j : Nat) : Bool := allN (neB (ps.map qaC.Name) j) j && ((nameB (gt ps j).Name && inI (gt ps j).Cap 0 500) && (bif decide (j + 1 = ps.length) then ((gt ps j).Dir == 2) && (((gt ps j).Cap == 0) && !(gt ps j).Clock) else ((gt ps j).Dir == 1)))

theorem qrz {ps : List qaC} : (lenB ps 2 5 && allN (pinS ps) ps.length) = pinsB ps := by
  have e : namesB (ps.map qaC.Name) = allN (fun j => nameB (gt ps j).Name && allN (neB (ps.map qaC.Name) j) j) ps.length := by
    unfold namesB
    rw [List.length_map]
    exact qgK (fun j hj => by rw [qio hj])
  unfold pinsB
  rw [e, ← Bool.and_assoc, Bool.and_comm (allN (pinB ps) ps.length), Bool.and_assoc, ← qit]
  congr 1
  refine qgK (fun j hj => ?_)
  unfold pinS pinB
  cases hd : decide (j + 1 = ps.length)
  · simp only [cond_false]
    cases allN (neB (ps.map qaC.Name) j) j <;> cases nameB (gt ps j).Name <;> cases inI (gt ps j).Cap 0 500 <;> cases ((gt ps j).Dir == 1) <;> rfl
  · simp only [cond_true]
    cases hcap : ((gt ps j).Cap == 0)
    · simp
    · have : inI (gt ps j).Cap 0 500 = true := by rw [beq_iff_eq] at hcap; rw [hcap]; rfl
      rw [this]
      cases allN (neB (ps.map qaC.Name) j) j <;> cases nameB (gt ps j).Name <;> cases ((gt ps j).Dir == 2) <;> cases (gt ps j).Clock <;> rfl

theorem qpr {c : qE} (h : okL qjT c.Pins) : Ev (fun n => qg3 n c) (bif pinsB c.Pins then (((clkN c.Pins c.Pins.length : Nat) : Int), true) else (0, false)) := by
  have hl := h.len
  have hL2 : ∀ j, j < c.Pins.length → Ev (fun n => qdd c (j : Int) (gt c.Pins j) n 0) (bif allN (neB (c.Pins.map qaC.Name) j) j then .nxt (j : Int) else .ret (0, false)) := by
    intro j hj
    refine qe1 ?_ (fun i hi X hX => Ev.succ ?_)
    · exact Ev.succ (by simp only [qdd, qv (Nat.le_refl _), cond_false]; exact .done)
    · simp only [qdd, qt hi, cond_true, qaq (show i < c.Pins.length by omega), Option.bind_some, qgr, qq (show i < 9223372036854775807 by omega)]
      unfold neB
      rw [qio (g := qaC.Name) (show i < c.Pins.length by omega), qio (g := qaC.Name) hj]
      exact Ev.chkP1 (fun _ => hX)
  have hL1 : Ev (fun n => qcd c n 0 0) (bif allN (pinS c.Pins) c.Pins.length then .nxt (((clkN c.Pins c.Pins.length : Nat) : Int), (c.Pins.length : Int)) else .ret (0, false)) := by
    refine loopN (Lf := qcd c) (S := fun j => ((clkN c.Pins j : Nat) : Int)) (pinS c.Pins) (fun n => ?_) (fun j hj hp X hX => ?_)
    · simp only [qcd, qv (Nat.le_refl _), cond_false]
    · have hn : clkN c.Pins j ≤ j := qeR
      have ejl : ((j : Int) == W64 ((c.Pins.length : Int) - 1)) = decide (j + 1 = c.Pins.length) := lastE hj hl
      have elt : decide ((j : Int) < W64 ((c.Pins.length : Int) - 1)) = !decide (j + 1 = c.Pins.length) := by
        rw [qfi (by omega) (by omega), Bool.eq_iff_iff]; simp; omega
      simp only [qcd, qt hj, cond_true, qaq hj, Option.bind_some, qq (show j < 9223372036854775807 by omega), qq (show clkN c.Pins j < 9223372036854775807 by omega), ejl, elt, qer]
      unfold pinS
      refine Ev.bind (hL2 j hj) ?_
      cases ha : allN (neB (c.Pins.map qaC.Name) j) j
      · exact .done
      · simp only [cond_true, Bool.true_and]
        refine Ev.chkT ?_ (fun h1 => ?_)
        · exact Ev.or (qkD (qig h hj).Name) (fun _ => .done)
        · refine Ev.chkT1 ?_ (fun h2 => ?_)
          · cases decide (j + 1 = c.Pins.length)
            · exact .done
            · simp only [cond_true, Bool.not_true, cond_false, bne, qbA]
              cases ((gt c.Pins j).Dir == 2) <;> cases ((gt c.Pins j).Cap == 0) <;> cases (gt c.Pins j).Clock <;> exact .done
          · have hX := hX (by unfold pinS; rw [ha, h1, h2]; rfl)
            have hck : clkN c.Pins (j + 1) = clkN c.Pins j + (bif (gt c.Pins j).Clock then 1 else 0) := rfl
            rw [hck] at hX
            cases hc : (gt c.Pins j).Clock
            · rw [hc] at hX; exact Ev.ff rfl hX
            · rw [hc] at hX; exact Ev.tt rfl hX
  rw [← qrz]
  unfold qg3
  refine Ev.guard ?_ (fun h1 => ?_)
  · unfold lenB
    have e1 : decide ((c.Pins.length : Int) < 2) = !decide (2 ≤ c.Pins.length) := by rw [Bool.eq_iff_iff]; simp; omega
    have e2 : decide ((c.Pins.length : Int) > 5) = !decide (c.Pins.length ≤ 5) := by rw [Bool.eq_iff_iff]; simp; omega
    rw [e1, e2]
    cases decide (2 ≤ c.Pins.length) <;> cases decide (c.Pins.length ≤ 5) <;> exact .done
  · refine Ev.bind hL1 ?_
    cases allN (pinS c.Pins) c.Pins.length <;> exact .done

/-! ### Lists of tables -/

def mnL (xs : List Int) : Int := (xs.drop 1).foldl (fun m y => if y < m then y else m) (at0 xs 0)
def mxL (xs : List Int) : Int := (xs.drop 1).foldl (fun m y => if y > m then y else m) (at0 xs 0)

theorem qmD {t : qJ} (h : tableB t = true) : 1 ≤ t.Values.length := by
  unfold tableB axisB lenB at h
  simp only [Bool.and_eq_true, decide_eq_true_eq] at h
  obtain ⟨⟨⟨h1, _⟩, _⟩, ⟨⟨h2, _⟩, _⟩, h3, _⟩ := h
  rw [h3]
  exact Nat.mul_pos h1 h2

theorem qrJ {xs : List Int} (h1 : 1 ≤ xs.length) (hl : xs.length ≤ 1048576) : Ev (fun n => qfb n xs) (mnL xs) := by
  have hL := (qln (Lf := fun n t j => qbQ xs n t j) (xs := xs) (step := fun (m y : Int) => if y < m then y else m) (fin := fun t => (t, (xs.length : Int))) 1 (at0 xs 0) (fun _ _ => True) h1 trivial (fun _ _ _ _ => trivial)
    (fun n t => by simp only [qbQ, qv (Nat.le_refl _), cond_false])
    (fun j t hj _ X hX => by simpa only [qbQ, qt hj, cond_true, qgN hj, Option.bind_some, qq (show j < 9223372036854775807 by omega)] using hX)).1
  unfold qfb
  rw [show decide ((xs.length : Int) < 1) = false by simp; omega, show idx xs (0 : Int) = some (at0 xs 0) from qbp (j := 0) (by omega)]
  simp only [cond_false, Option.bind_some]
  exact Ev.bind hL .done

theorem qo8 {t : qJ} (h : qhu t) : Ev (fun n => qe7 n t) (bif tableB t then (⟨mnL t.Values, mxL t.Values⟩, 0) else (⟨0, 0⟩, 1)) := by
  unfold qe7
  refine Ev.chk1 (qok h) (fun hb => ?_)
  have h1 := qmD hb
  have hl := h.Values.len
  have hL := (qln (Lf := fun n (t' : Int × Int) j => qbO t n t'.1 t'.2 j) (xs := t.Values) (step := fun (m : Int × Int) y => (if y < m.1 then y else m.1, if y > m.2 then y else m.2)) (fin := fun t' => (t'.1, t'.2, (t.Values.length : Int))) 1 (at0 t.Values 0, at0 t.Values 0) (fun _ _ => True) h1 trivial (fun _ _ _ _ => trivial)
    (fun n t => by simp only [qbO, qv (Nat.le_refl _), cond_false])
    (fun j t hj _ X hX => by simpa only [qbO, qt hj, cond_true, qgN hj, Option.bind_some, qq (show j < 9223372036854775807 by omega)] using hX)).1
  have hf : ∀ (ys : List Int) (a b : Int), ys.foldl (fun (m : Int × Int) y => (if y < m.1 then y else m.1, if y > m.2 then y else m.2)) (a, b) = (ys.foldl (fun m y => if y < m then y else m) a, ys.foldl (fun m y => if y > m then y else m) b) := by
    intro ys
    induction ys with
    | nil => intro a b; rfl
    | cons y ys ih => intro a b; simp only [List.foldl_cons, ih]
  rw [hf] at hL
  rw [show idx t.Values (0 : Int) = some (at0 t.Values 0) from qbp (j := 0) (by omega)]
  simp only [Option.bind_some]
  exact Ev.bind hL .done

def tabB (pos : Bool) (t : qJ) : Bool := tableB t && (!pos || decide (0 ≤ mnL t.Values))
def tablesB (ts : List qJ) (pos : Bool) : Bool := decide (ts.length = 2) && ts.all (tabB pos)

theorem qjo {ts : List qJ} {pos : Bool} (h : okL qhu ts) : Ev (fun n => qek n ts pos) (tablesB ts pos) := by
  have hl := h.len
  have h1 : Ev (fun n => qau n ts pos) (ixL (fun x => !tabB pos x) ts) :=
    qei (fin := (ts.length : Int)) (Lf := qQ ts pos) (pf := fun n x => qfa n x pos) (fun x hx => by
        unfold qfa tabB
        refine Ev.or (qo3 (h.2 x hx)) (fun hb => ?_)
        cases pos
        · exact .done
        · refine Ev.tt rfl (Ev.bind (qrJ (qmD hb) (h.2 x hx).Values.len) (Ev.now ?_))
          congr 1
          rw [Bool.eq_iff_iff]; simp)
      (fun n => by simp only [qQ, qv (Nat.le_refl _), cond_false])
      (fun n j x hx => by
        have hj := (List.getElem?_eq_some_iff.1 hx).1
        simp only [qQ, qt hj, cond_true, qaJ hx, Option.bind_some, qq (show j < 9223372036854775807 by omega)])
      (fun n => by unfold qau; congr 1; funext o; cases o <;> rfl)
  unfold qek qaG tablesB
  rw [show ((ts.length : Int) == 2) = decide (ts.length = 2) by rw [Bool.eq_iff_iff]; simp; omega]
  refine Ev.andP (fun _ => Ev.bind (Ev.bind h1 (Ev.now rfl)) (Ev.now ?_))
  rw [qia, qk2]

theorem qhd {ts : List qJ} {pos : Bool} (h : okL qhu ts) : Ev (fun n => qda n ts pos) (tablesB ts pos) := by
  unfold qda tablesB
  rw [show ((ts.length : Int) != 2) = !decide (ts.length = 2) by rw [Bool.eq_iff_iff]; simp; omega]
  simp only [qbA]
  refine Ev.andP (fun h2 => ?_)
  have h2 : ts.length = 2 := by simpa using h2
  have hL : Ev (fun n => qb1 ts pos n 0) (bif allN (fun j => tabB pos (gt ts j)) ts.length then .nxt (2 : Int) else .ret false) := by
    refine qe1 (len := ts.length) ?_ (fun j hj X hX => Ev.succ ?_)
    · rw [h2]; exact Ev.succ (by simp only [qb1]; exact .done)
    · simp only [qb1, show decide ((j : Int) < 2) = true by simp; omega, cond_true, qaq hj, Option.bind_some, qq (show j < 9223372036854775807 by omega)]
      refine Ev.bind (qo8 (qig h hj)) ?_
      unfold tabB
      cases tableB (gt ts j)
      · exact .done
      · simp only [cond_true, Bool.true_and]
        refine Ev.ff rfl ?_
        cases pos
        · exact hX
        · refine Ev.tt rfl ?_
          rw [show decide (mnL (gt ts j).Values < 0) = !decide (0 ≤ mnL (gt ts j).Values) by rw [Bool.eq_iff_iff]; simp]
          simp only [qbA]
          exact Ev.okP1 (fun _ => hX)
  rw [qhI]
  refine Ev.bind hL ?_
  cases allN (fun j => tabB pos (gt ts j)) ts.length <;> exact .done
end Go.Fw


namespace Go.Fw
open Go
set_option maxRecDepth 100000

theorem qfU {α : Type} [Inhabited α] {xs : List α} {x : Int} (h0 : 0 ≤ x) (h1 : x < xs.length) : idx xs x = some (gt xs x.toNat) := by
  have := qaq (xs := xs) (j := x.toNat) (by omega)
  rwa [← qkF h0] at this
theorem qnt {q : Nat → Bool} {m n : Nat} (h : m ≤ n) : cntP q m ≤ cntP q n := by
  induction n with
  | zero => obtain rfl : m = 0 := by omega
            exact Nat.le_refl _
  | succ n ih =>
    rcases Nat.lt_or_eq_of_le h with h | rfl
    · exact Nat.le_trans (ih (by omega)) (Nat.le_add_right _ _)
    · exact Nat.le_refl _
theorem qjm {m k : Nat} : decide ((m : Int) ≤ (k : Int)) = decide (m ≤ k) := by rw [Bool.eq_iff_iff]; simp
theorem qn2 {q : Nat → Bool} {n i j : Nat} (hi : i < j) (hj : j < n) (h1 : q i = true) (h2 : q j = true) : 2 ≤ cntP q n := by
  have e1 : cntP q (i + 1) = cntP q i + 1 := by rw [cntP, h1]; rfl
  have e2 : cntP q (j + 1) = cntP q j + 1 := by rw [cntP, h2]; rfl
  have m1 := qnt (q := q) (show i + 1 ≤ j by omega)
  have m2 := qnt (q := q) (show j + 1 ≤ n by omega)
  omega
theorem qn3 {q : Nat → Bool} {n i j : Nat} (hn : cntP q n ≤ 1) (hi : i < n) (hj : j < n) (h1 : q i = true) (h2 : q j = true) : i = j := by
  rcases Nat.lt_trichotomy i j with h | h | h
  · have := qn2 h hj h1 h2; omega
  · exact h
  · have := qn2 h hi h2 h1; omega

/-! ### Arcs -/

def clkIx (ps : List qaC) : Int := ixL (fun p => p.Clock) ps
def clkAt (ps : List qaC) (x : Int) : Bool := (gt ps x.toNat).Clock

theorem qqz {c : qE} (hl : c.Pins.length ≤ 1048576) : Ev (fun n => qfF n c) (clkIx c.Pins) := by
  unfold qfF
  refine Ev.bind (b := clkIx c.Pins) ?_ .done
  exact qei (fin := (c.Pins.length : Int)) (Lf := qR c.Pins) (pf := fun n x => qfR n x) (fun _ _ => .done)
    (fun n => by simp only [qR, qv (Nat.le_refl _), cond_false])
    (fun n j x hx => by
      have hj := (List.getElem?_eq_some_iff.1 hx).1
      simp only [qR, qt hj, cond_true, qaJ hx, Option.bind_some, qq (show j < 9223372036854775807 by omega)])
    (fun n => by unfold qaZ; congr 1; funext o; cases o <;> rfl)

def arcI (ps : List qaC) (a : qah) : Bool :=
  bif (a.Kind == 4) || (a.Kind == 5) then
    (a.Sense == 0) && (((a.Slew.length : Int) == 0) && (tablesB a.Delay false && ((a.From == clkIx ps) && (decide (a.From ≥ 0) && (inI a.To 0 (ps.length - 2) && !(a.To == a.From))))))
  else
    (tablesB a.Delay true && (tablesB a.Slew true && ((a.To == (ps.length : Int) - 1) && inI a.From 0 (ps.length - 2)))) &&
      (bif a.Kind == 1 then !clkAt ps a.From && inI a.Sense 1 3 else (bif (a.Kind == 2) || (a.Kind == 3) then clkAt ps a.From && (a.Sense == 0) else false))

def arcS (ps : List qaC) (a : qah) : Bool :=
  (inI a.From 0 (ps.length - 2) && inI a.To 0 (ps.length - 1)) &&
    (bif a.Kind == 1 then !clkAt ps a.From && ((a.To == (ps.length : Int) - 1) && (inI a.Sense 1 3 && (tablesB a.Delay true && tablesB a.Slew true)))
     else (bif (a.Kind == 2) || (a.Kind == 3) then clkAt ps a.From && ((a.To == (ps.length : Int) - 1) && ((a.Sense == 0) && (tablesB a.Delay true && tablesB a.Slew true)))
     else (bif (a.Kind == 4) || (a.Kind == 5) then clkAt ps a.From && (decide (a.To < (ps.length : Int) - 1) && (!clkAt ps a.To && ((a.Sense == 0) && (tablesB a.Delay false && ((a.Slew.length : Int) == 0))))) else false)))

theorem qlE {c d : Bool} : (bif c then some c else some d) = some (c || d) := by cases c <;> rfl
theorem qoh {c d : Bool} : (bif c then some true else some d) = some (c || d) := by cases c <;> rfl

theorem qps {n : Nat} {k : Int} : qhg n k = some ((k == 4) || (k == 5)) := by simp only [qhg, qoh]
theorem qqI {c : qE} {a : qah} (h : okL qjT c.Pins) (ha : qkA a) (hm : 2 ≤ c.Pins.length) : Ev (fun n => qfE n c a) (arcI c.Pins a) := by
  have hl := h.len
  have e1 : W64 ((c.Pins.length : Int) - 1) = (c.Pins.length : Int) - 1 := qbX (by omega)
  have e2 : W64 ((c.Pins.length : Int) - 1 - 1) = (c.Pins.length : Int) - 2 := by rw [qfi (by omega) (by omega)]; omega
  simp only [qfE, qps, Option.bind_some, qeX, qcj, qbG, e1, e2, qed, qlE, bne]
  unfold arcI
  refine Ev.iff (fun _ => Ev.last ?_) (fun _ => Ev.guardB ?_ (fun hb => ?_))
  · exact Ev.andP fun _ => Ev.andP fun _ => Ev.and (qjo ha.Delay) fun _ => Ev.bind (qqz hl) (Ev.andP fun _ => Ev.andP fun _ => Ev.andP fun _ => .done)
  · refine Ev.or (qjo ha.Delay) fun _ => Ev.or (qjo ha.Slew) fun _ => ?_
    simp only [qbA]
    exact Ev.orBP fun _ => .done
  · have hf : 0 ≤ a.From ∧ a.From ≤ (c.Pins.length : Int) - 2 := by
      simp only [Bool.and_eq_true, qc5] at hb
      exact hb.2.2.2
    simp only [qfU hf.1 (show a.From < (c.Pins.length : Int) by omega), Option.bind_some]
    exact Ev.iff (fun _ => Ev.andP fun _ => .done) (fun _ => Ev.iff (fun _ => Ev.andP fun _ => .done) (fun _ => .done))

theorem qpZ {c : qE} {a : qah} (h : okL qjT c.Pins) (ha : qkA a) (hm : 2 ≤ c.Pins.length) : Ev (fun n => qhT n c a) (arcS c.Pins a) := by
  have hl := h.len
  have e1 : W64 ((c.Pins.length : Int) - 1) = (c.Pins.length : Int) - 1 := qbX (by omega)
  have e2 : W64 ((c.Pins.length : Int) - 1 - 1) = (c.Pins.length : Int) - 2 := by rw [qfi (by omega) (by omega)]; omega
  simp only [qhT, Option.bind_some, e1, e2, qer, qlE]
  unfold arcS
  refine Ev.guardB ?_ (fun hb => ?_)
  · simp only [qbA]
    exact Ev.orBP fun _ => .done
  · have hf : (0 ≤ a.From ∧ a.From ≤ (c.Pins.length : Int) - 2) ∧ (0 ≤ a.To ∧ a.To ≤ (c.Pins.length : Int) - 1) := by
      simp only [Bool.and_eq_true, qc5] at hb
      exact hb
    simp only [qfU hf.1.1 (show a.From < (c.Pins.length : Int) by omega), qfU hf.2.1 (show a.To < (c.Pins.length : Int) by omega), Option.bind_some]
    refine Ev.iff (fun _ => ?_) (fun _ => Ev.iff (fun _ => ?_) (fun _ => Ev.iff (fun _ => ?_) (fun _ => .done)))
    · exact Ev.andP fun _ => Ev.andP fun _ => Ev.andP fun _ => Ev.and (qhd ha.Delay) fun _ => Ev.last (qhd ha.Slew)
    · exact Ev.andP fun _ => Ev.andP fun _ => Ev.andP fun _ => Ev.and (qhd ha.Delay) fun _ => Ev.last (qhd ha.Slew)
    · exact Ev.andP fun _ => Ev.andP fun _ => Ev.andP fun _ => Ev.andP fun _ => Ev.and (qhd ha.Delay) fun _ => .done

/-- The place of the clock, where there is one at most. -/
theorem qlg {ps : List qaC} (h1 : clkN ps ps.length ≤ 1) {x : Int} (hx : 0 ≤ x) : clkIx ps = x ↔ x < ps.length ∧ clkAt ps x = true := by
  unfold clkIx ixL
  cases hf : ps.findIdx? (fun p => p.Clock) with
  | some j =>
    obtain ⟨hj, hp, _⟩ := List.findIdx?_eq_some_iff_getElem.1 hf
    have hpj : (gt ps j).Clock = true := by rw [qiF hj]; exact hp
    constructor
    · intro e
      have e : (j : Int) = x := e
      subst e
      exact ⟨by omega, by unfold clkAt; rw [Int.toNat_natCast]; exact hpj⟩
    · rintro ⟨hl, hc⟩
      have := qn3 h1 hj (show x.toNat < ps.length by omega) hpj hc
      show (j : Int) = x
      omega
  | none =>
    have hn := List.findIdx?_eq_none_iff.1 hf
    constructor
    · intro e
      have e : (-1 : Int) = x := e
      omega
    · rintro ⟨hl, hc⟩
      have hxl : x.toNat < ps.length := by omega
      unfold clkAt at hc
      rw [qiF hxl] at hc
      have := hn _ (List.getElem_mem hxl)
      rw [hc] at this
      exact absurd this (by decide)

theorem qiA {ps : List qaC} (h : pinsB ps = true) : (2 ≤ ps.length ∧ ps.length ≤ 5) ∧ clkAt ps ((ps.length : Int) - 1) = false := by
  unfold pinsB lenB at h
  simp only [Bool.and_eq_true, decide_eq_true_eq] at h
  refine ⟨h.2.1, ?_⟩
  have h1 := qa1.1 h.1 (ps.length - 1) (by omega)
  unfold pinB at h1
  rw [show decide (ps.length - 1 + 1 = ps.length) = true by simp; omega] at h1
  simp only [cond_true, Bool.and_eq_true, Bool.not_eq_true'] at h1
  unfold clkAt
  rw [show ((ps.length : Int) - 1).toNat = ps.length - 1 by omega]
  exact h1.2.2

theorem qqZ {ps : List qaC} {a : qah} (h : pinsB ps = true) (h1 : clkN ps ps.length ≤ 1) : arcI ps a = arcS ps a := by
  obtain ⟨⟨hm, hm5⟩, hlast⟩ := qiA h
  rw [Bool.eq_iff_iff]
  unfold arcI arcS
  cases h45 : ((a.Kind == 4) || (a.Kind == 5)) with
  | true =>
    have k1 : (a.Kind == 1) = false := by simp at h45 ⊢; omega
    have k23 : ((a.Kind == 2) || (a.Kind == 3)) = false := by simp at h45 ⊢; omega
    rw [k1, k23]
    simp only [cond_true, cond_false, Bool.and_eq_true, qc5, decide_eq_true_eq, beq_iff_eq, Bool.not_eq_true', beq_eq_false_iff_ne, ne_eq]
    constructor
    · rintro ⟨hs, hsl, hd, hf, hf0, ht, hne⟩
      obtain ⟨hl, hc⟩ := (qlg h1 hf0).1 hf.symm
      have hfl : a.From ≠ (ps.length : Int) - 1 := by intro e; rw [e, hlast] at hc; cases hc
      refine ⟨⟨⟨hf0, by omega⟩, ⟨ht.1, by omega⟩⟩, hc, by omega, ?_, hs, hd, hsl⟩
      cases hct : clkAt ps a.To with
      | false => rfl
      | true =>
        have := (qlg h1 ht.1).2 ⟨by omega, hct⟩
        omega
    · rintro ⟨⟨hf, ht⟩, hc, hlt, hct, hs, hd, hsl⟩
      have := (qlg h1 hf.1).2 ⟨by omega, hc⟩
      refine ⟨hs, hsl, hd, this.symm, hf.1, ⟨ht.1, by omega⟩, ?_⟩
      intro e
      rw [e, hc] at hct
      cases hct
  | false =>
    simp only [cond_false, Bool.and_eq_true, qc5, beq_iff_eq]
    cases (a.Kind == 1)
    · cases ((a.Kind == 2) || (a.Kind == 3))
      · simp
      · simp only [cond_true, cond_false, Bool.and_eq_true, beq_iff_eq]
        constructor
        · rintro ⟨⟨h1, h2, h3, h4⟩, h5, h6⟩
          exact ⟨⟨h4, by omega⟩, h5, h3, h6, h1, h2⟩
        · rintro ⟨⟨h4, h7⟩, h5, h3, h6, h1, h2⟩
          exact ⟨⟨h1, h2, h3, h4⟩, h5, h6⟩
    · simp only [cond_true, Bool.and_eq_true, qc5, Bool.not_eq_true', beq_iff_eq]
      constructor
      · rintro ⟨⟨h1, h2, h3, h4⟩, h5, h6⟩
        exact ⟨⟨h4, by omega⟩, h5, h3, h6, h1, h2⟩
      · rintro ⟨⟨h4, h7⟩, h5, h3, h6, h1, h2⟩
        exact ⟨⟨h1, h2, h3, h4⟩, h5, h6⟩

theorem qny {ps : List qaC} {a : qah} (h : arcS ps a = true) : 1 ≤ a.Kind ∧ a.Kind ≤ 5 := by
  unfold arcS at h
  rw [Bool.and_eq_true] at h
  have h := h.2
  cases h1 : (a.Kind == 1)
  · cases h2 : ((a.Kind == 2) || (a.Kind == 3))
    · cases h4 : ((a.Kind == 4) || (a.Kind == 5))
      · rw [h1, h2, h4] at h; cases h
      · simp at h4; omega
    · simp at h2; omega
  · simp at h1; omega

def sameArc (x y : qah) : Bool := (x.Kind == y.Kind) && ((x.From == y.From) && (x.To == y.To))
def newArc (ar : List qah) (j : Nat) : Bool := allN (fun i => !sameArc (gt ar i) (gt ar j)) j

theorem qph {c : qE} (h : okL qjT c.Pins) (ha : okL qkA c.Arcs) (hm : 2 ≤ c.Pins.length) : Ev (fun n => qeH n c) (allN (fun j => arcI c.Pins (gt c.Arcs j) && newArc c.Arcs j) c.Arcs.length && decide (c.Arcs.length ≤ 8)) := by
  have hl := ha.len
  have h1 : ∀ (ar : List qah) (y : qah), ar.length ≤ 1048576 → Ev (fun n => qak n ar y) (ar.any fun x => sameArc x y) := by
    intro ar y hl
    unfold qak
    refine Ev.bind (b := ixL (fun x => sameArc x y) ar) (qei (fin := (ar.length : Int)) (Lf := qO ar y) (pf := fun n x => qd5 n x y) (fun x _ => ?_)
      (fun n => by simp only [qO, qv (Nat.le_refl _), cond_false])
      (fun n j x hx => by
        have hj := (List.getElem?_eq_some_iff.1 hx).1
        simp only [qO, qt hj, cond_true, qaJ hx, Option.bind_some, qq (show j < 9223372036854775807 by omega)])
      (fun n => by unfold qaQ; congr 1; funext o; cases o <;> rfl)) (Ev.now (by rw [qia]))
    unfold qd5 sameArc
    exact Ev.andP fun _ => Ev.andP fun _ => .done
  have hL : Ev (fun n => qbF c n 0) (bif allN (fun j => arcI c.Pins (gt c.Arcs j) && newArc c.Arcs j) c.Arcs.length then .nxt (c.Arcs.length : Int) else .ret false) := by
    refine qe1 ?_ (fun j hj X hX => Ev.succ ?_)
    · exact Ev.succ (by simp only [qbF, qv (Nat.le_refl _), cond_false]; exact .done)
    · simp only [qbF, qt hj, cond_true, qaq hj, Option.bind_some, qpO (Nat.le_of_lt hj), qq (show j < 9223372036854775807 by omega)]
      refine Ev.chk (qqI h (qig ha hj) hm) fun _ => Ev.chkT1 ?_ (fun _ => hX)
      refine (h1 _ _ (by simp; omega)).cast ?_
      rw [qqM (Nat.le_of_lt hj)]; rfl
  unfold qeH
  refine Ev.bind hL ?_
  cases allN (fun j => arcI c.Pins (gt c.Arcs j) && newArc c.Arcs j) c.Arcs.length
  · exact .done
  · refine Ev.now ?_
    show some (decide ((c.Arcs.length : Int) ≤ ((8 : Nat) : Int))) = some (true && decide (c.Arcs.length ≤ 8))
    rw [qjm, Bool.true_and]

def hasB (ar : List qah) (k : Int) : Bool := ar.any fun a => a.Kind == k
theorem qll {c : qE} {k : Int} (hl : c.Arcs.length ≤ 1048576) : Ev (fun n => qcU n c k) (hasB c.Arcs k) := by
  unfold qcU qaU
  exact Ev.last (Ev.bind (b := ixL (fun x => x.Kind == k) c.Arcs) (qei (fin := (c.Arcs.length : Int)) (Lf := qS c.Arcs k) (pf := fun n x => qgH n x k) (fun x _ => .done)
      (fun n => by simp only [qS, qv (Nat.le_refl _), cond_false])
      (fun n j x hx => by
        have hj := (List.getElem?_eq_some_iff.1 hx).1
        simp only [qS, qt hj, cond_true, qaJ hx, Option.bind_some, qq (show j < 9223372036854775807 by omega)])
      (fun n => by unfold qa9; congr 1; funext o; cases o <;> rfl)) (Ev.now (by rw [qia]; rfl)))

def kindN (ar : List qah) (k : Nat) (j : Nat) : Nat := cntP (fun i => (gt ar i).Kind == (k : Int)) j
theorem qnz {ar : List qah} {k : Nat} : decide (((kindN ar k ar.length : Nat) : Int) > 0) = hasB ar k := by
  rw [show decide (((kindN ar k ar.length : Nat) : Int) > 0) = decide (0 < kindN ar k ar.length) by simp]
  unfold kindN hasB
  rw [qor, qq8]
theorem qoT {ar : List qah} {k : Nat} : (((kindN ar k ar.length : Nat) : Int) == 0) = !hasB ar k := by
  rw [← qnz, Bool.eq_iff_iff]; simp

theorem qon {c : qE} (ha : okL qkA c.Arcs) (hk : ∀ j, j < c.Arcs.length → 1 ≤ (gt c.Arcs j).Kind ∧ (gt c.Arcs j).Kind ≤ 5) : Ev (fun n => qgA n c) (vecC (fun k => kindN c.Arcs k c.Arcs.length) 6) := by
  have hl := ha.len
  have hL : Ev (fun n => qcm c n (vecC (fun _ => 0) 6) 0) (vecC (fun k => kindN c.Arcs k c.Arcs.length) 6, (c.Arcs.length : Int)) := by
    refine loopF (Lf := qcm c) (S := fun j => vecC (fun k => kindN c.Arcs k j) 6) (len := c.Arcs.length) (fun n => ?_) (fun j hj X hX => ?_)
    · simp only [qcm, qv (Nat.le_refl _), cond_false]
    · obtain ⟨k1, k5⟩ := hk j hj
      have ek : (gt c.Arcs j).Kind = (((gt c.Arcs j).Kind.toNat : Nat) : Int) := qkF (by omega)
      have hc : kindN c.Arcs (gt c.Arcs j).Kind.toNat j ≤ j := qeR
      simp only [qcm, qt hj, cond_true, qaq hj, Option.bind_some, qq (show j < 9223372036854775807 by omega)]
      rw [ek, qiy (show (gt c.Arcs j).Kind.toNat < 6 by omega)]
      simp only [Option.bind_some]
      rw [qng (c := fun k => kindN c.Arcs k j) (by show kindN c.Arcs _ j < _; omega)]
      have : vecC (fun i => kindN c.Arcs i j + (bif decide ((gt c.Arcs j).Kind.toNat = i) then 1 else 0)) 6 = vecC (fun k => kindN c.Arcs k (j + 1)) 6 := by
        refine qiB (fun k _ => ?_)
        show _ = kindN c.Arcs k j + (bif (gt c.Arcs j).Kind == (k : Int) then 1 else 0)
        congr 2
        rw [Bool.eq_iff_iff]; simp; omega
      rw [this]
      exact hX
  unfold qgA
  rw [show mkS 6 (0 : Int) = some (vecC (fun _ => 0) 6) from qj9 (m := 6) (by omega)]
  simp only [Option.bind_some]
  exact Ev.bind hL .done

/-! ### Cells -/

def kindB (c : qE) : Bool :=
  bif c.Kind == 1 then (((clkN c.Pins c.Pins.length : Nat) : Int) == 0) && (((c.Truth.length : Int) == ((2 ^ (c.Pins.length - 1) : Nat) : Int)) && (c.Truth.all fun x => inI x 0 1))
  else bif c.Kind == 2 then (((clkN c.Pins c.Pins.length : Nat) : Int) == 1) && (((c.Truth.length : Int) == 0) && (!hasB c.Arcs 1 && !(hasB c.Arcs 2 == hasB c.Arcs 3)))
  else bif c.Kind == 3 then (((clkN c.Pins c.Pins.length : Nat) : Int) == 1) && (((c.Truth.length : Int) == 0) && (hasB c.Arcs 1 && (hasB c.Arcs 2 && !hasB c.Arcs 3)))
  else false

theorem qnh {c : qE} (h : kindB c = true) : clkN c.Pins c.Pins.length ≤ 1 := by
  unfold kindB at h
  cases h1 : (c.Kind == 1)
  · cases h2 : (c.Kind == 2)
    · cases h3 : (c.Kind == 3)
      · rw [h1, h2, h3] at h; cases h
      · rw [h1, h2, h3] at h
        simp only [cond_true, cond_false, Bool.and_eq_true, beq_iff_eq] at h
        omega
    · rw [h1, h2] at h
      simp only [cond_true, cond_false, Bool.and_eq_true, beq_iff_eq] at h
      omega
  · rw [h1] at h
    simp only [cond_true, Bool.and_eq_true, beq_iff_eq] at h
    omega

theorem qoo {m : Nat} (h1 : 2 ≤ m) (h2 : m ≤ 5) : shlS 1 (W64 ((m : Int) - 1)) = some ((2 ^ (m - 1) : Nat) : Int) ∧ shlS 1 (IntKind.wrap .u64 (W64 ((m : Int) - 1))) = some ((2 ^ (m - 1) : Nat) : Int) := by
  have : m = 2 ∨ m = 3 ∨ m = 4 ∨ m = 5 := by omega
  rcases this with rfl | rfl | rfl | rfl <;> exact ⟨by decide, by decide⟩

theorem qos {c : qE} (hc : qkc c) (hm : 2 ≤ c.Pins.length) (hm5 : c.Pins.length ≤ 5) : Ev (fun n => qeu n c) (kindB c) := by
  have hl := hc.Pins.len
  have hL : Ev (fun n => qaW c n 0 0) (((clkN c.Pins c.Pins.length : Nat) : Int), (c.Pins.length : Int)) := by
    refine loopF (Lf := qaW c) (S := fun j => ((clkN c.Pins j : Nat) : Int)) (len := c.Pins.length) (fun n => ?_) (fun j hj X hX => ?_)
    · simp only [qaW, qv (Nat.le_refl _), cond_false]
    · have hn : clkN c.Pins j ≤ j := qeR
      simp only [qaW, qt hj, cond_true, qaq hj, Option.bind_some, qq (show j < 9223372036854775807 by omega), qq (show clkN c.Pins j < 9223372036854775807 by omega)]
      have hck : clkN c.Pins (j + 1) = clkN c.Pins j + (bif (gt c.Pins j).Clock then 1 else 0) := rfl
      rw [hck] at hX
      cases hc : (gt c.Pins j).Clock
      · rw [hc] at hX; exact Ev.ff rfl hX
      · rw [hc] at hX; exact Ev.tt rfl hX
  unfold qeu kindB
  refine Ev.bind hL ?_
  simp only [qcj, qbG, Option.bind_some, (qoo hm hm5).1]
  have hal := hc.Arcs.len
  refine Ev.iff (fun _ => ?_) (fun _ => Ev.iff (fun _ => ?_) (fun _ => Ev.iff (fun _ => ?_) (fun _ => .done)))
  · exact Ev.andP fun _ => Ev.andP fun _ => Ev.last (qeL hc.Truth.len)
  · exact Ev.andP fun _ => Ev.andP fun _ => Ev.bind (qll hal) (Ev.andP fun _ => Ev.bind (qll hal) (Ev.bind (qll hal) .done))
  · exact Ev.andP fun _ => Ev.andP fun _ => Ev.and (qll hal) fun _ => Ev.and (qll hal) fun _ => Ev.bind (qll hal) .done

def cellB (c : qE) : Bool :=
  nameB c.Name && (pinsB c.Pins && ((allN (fun j => arcI c.Pins (gt c.Arcs j) && newArc c.Arcs j) c.Arcs.length && decide (c.Arcs.length ≤ 8)) && (inI c.Leak 0 100000 && (inI c.Energy 0 100000 && kindB c))))

theorem qp9 {c : qE} (hc : qkc c) : Ev (fun n => qh2 n c) (cellB c) := by
  simp only [qh2, qni hc.Name, qed, Option.bind_some]
  unfold cellB
  refine Ev.andP fun _ => Ev.and (qo1 hc.Pins) fun hp => ?_
  obtain ⟨⟨hm, hm5⟩, _⟩ := qiA hp
  exact Ev.and (qph hc.Pins hc.Arcs hm) fun _ => Ev.andP fun _ => Ev.andP fun _ => Ev.last (qos hc hm hm5)

theorem qoO {c : qE} (hc : qkc c) : Ev (fun n => qh0 n c) (cellB c) := by
  have hal := hc.Arcs.len
  have htl := hc.Truth.len
  have e : cellB c = ((pinsB c.Pins && (nameB c.Name && (decide (c.Arcs.length ≤ 8) && (inI c.Leak 0 100000 && inI c.Energy 0 100000)))) && (allN (fun j => arcS c.Pins (gt c.Arcs j) && newArc c.Arcs j) c.Arcs.length && kindB c)) := by
    unfold cellB
    cases hk : kindB c
    · simp
    · cases hp : pinsB c.Pins
      · simp
      · rw [qgK (fun j _ => by rw [qqZ hp (qnh hk)])]
        cases nameB c.Name <;> cases allN (fun j => arcS c.Pins (gt c.Arcs j) && newArc c.Arcs j) c.Arcs.length <;> cases decide (c.Arcs.length ≤ 8) <;> cases inI c.Leak 0 100000 <;> cases inI c.Energy 0 100000 <;> rfl
  rw [e]
  unfold qh0
  refine Ev.bind (qpr hc.Pins) ?_
  cases hp : pinsB c.Pins
  · exact .done
  · obtain ⟨⟨hm, hm5⟩, _⟩ := qiA hp
    simp only [cond_true, Bool.true_and, Bool.not_true, cond_false]
    refine Ev.guardB ?_ (fun _ => ?_)
    · simp only [qer, Option.bind_some, qbA]
      refine Ev.orB (qkD hc.Name) fun _ => ?_
      rw [show decide ((c.Arcs.length : Int) > 8) = !decide (c.Arcs.length ≤ 8) by rw [Bool.eq_iff_iff]; simp; omega, qbA]
      exact Ev.orBP fun _ => Ev.orBP fun _ => .done
    · have hL2 : ∀ j, j < c.Arcs.length → Ev (fun n => qcz c (j : Int) (gt c.Arcs j) n 0) (bif newArc c.Arcs j then .nxt (j : Int) else .ret false) := by
        intro j hj
        refine qe1 ?_ (fun i hi X hX => Ev.succ ?_)
        · exact Ev.succ (by simp only [qcz, qv (Nat.le_refl _), cond_false]; exact .done)
        · simp only [qcz, qt hi, cond_true, qaq (show i < c.Arcs.length by omega), Option.bind_some, qq (show i < 9223372036854775807 by omega)]
          unfold sameArc
          cases ((gt c.Arcs i).Kind == (gt c.Arcs j).Kind)
          · exact hX
          · cases ((gt c.Arcs i).From == (gt c.Arcs j).From)
            · exact hX
            · cases ((gt c.Arcs i).To == (gt c.Arcs j).To)
              · exact hX
              · exact .done
      have hL1 : Ev (fun n => qdL c n 0) (bif allN (fun j => arcS c.Pins (gt c.Arcs j) && newArc c.Arcs j) c.Arcs.length then .nxt (c.Arcs.length : Int) else .ret false) := by
        refine qe1 ?_ (fun j hj X hX => Ev.succ ?_)
        · exact Ev.succ (by simp only [qdL, qv (Nat.le_refl _), cond_false]; exact .done)
        · simp only [qdL, qt hj, cond_true, qaq hj, Option.bind_some, qq (show j < 9223372036854775807 by omega)]
          refine Ev.chk (qpZ hc.Pins (qig hc.Arcs hj) hm) fun _ => Ev.bind (hL2 j hj) ?_
          cases newArc c.Arcs j
          · exact .done
          · exact hX
      have hL3 : Ev (fun n => qdF c n 0) (bif (c.Truth.all fun x => inI x 0 1) then .nxt (c.Truth.length : Int) else .ret false) :=
        qj1 (fun n => by simp only [qdF, qv (Nat.le_refl _), cond_false]) (fun j hj X hX => by
          simp only [qdF, qt hj, cond_true, qgN hj, Option.bind_some, qer, qq (show j < 9223372036854775807 by omega), qbA]
          exact Ev.okP1 fun _ => hX)
      refine Ev.bind hL1 ?_
      cases hA : allN (fun j => arcS c.Pins (gt c.Arcs j) && newArc c.Arcs j) c.Arcs.length
      · exact .done
      · have hk : ∀ j, j < c.Arcs.length → 1 ≤ (gt c.Arcs j).Kind ∧ (gt c.Arcs j).Kind ≤ 5 := fun j hj => by
          have := qa1.1 hA j hj
          rw [Bool.and_eq_true] at this
          exact qny this.1
        simp only [cond_true, Bool.true_and]
        refine Ev.bind (qon hc.Arcs hk) ?_
        simp only [(qoo hm hm5).2, Option.bind_some,
          show idx (vecC (fun k => kindN c.Arcs k c.Arcs.length) 6) (1 : Int) = some ((kindN c.Arcs 1 c.Arcs.length : Nat) : Int) from qiy (k := 1) (by omega),
          show idx (vecC (fun k => kindN c.Arcs k c.Arcs.length) 6) (2 : Int) = some ((kindN c.Arcs 2 c.Arcs.length : Nat) : Int) from qiy (k := 2) (by omega),
          show idx (vecC (fun k => kindN c.Arcs k c.Arcs.length) 6) (3 : Int) = some ((kindN c.Arcs 3 c.Arcs.length : Nat) : Int) from qiy (k := 3) (by omega), qnz, qoT]
        unfold kindB
        refine Ev.iff (fun _ => ?_) (fun _ => Ev.iff (fun _ => ?_) (fun _ => Ev.iff (fun _ => ?_) (fun _ => .done)))
        · refine Ev.bind hL3 ?_
          cases (c.Truth.all fun x => inI x 0 1)
          · exact Ev.now (by simp)
          · exact (Ev.andP (fun _ => .done)).cast (by rw [Bool.and_true])
        · refine (Ev.andP fun _ => Ev.andP fun _ => Ev.andP fun _ => .done).cast ?_
          cases (((clkN c.Pins c.Pins.length : Nat) : Int) == 1) <;> cases ((c.Truth.length : Int) == 0) <;> cases hasB c.Arcs ((1 : Nat) : Int) <;> cases hasB c.Arcs ((2 : Nat) : Int) <;> cases hasB c.Arcs ((3 : Nat) : Int) <;> rfl
        · refine (Ev.andP fun _ => Ev.andP fun _ => Ev.andP fun _ => Ev.andP fun _ => .done).cast ?_
          cases (((clkN c.Pins c.Pins.length : Nat) : Int) == 1) <;> cases ((c.Truth.length : Int) == 0) <;> cases hasB c.Arcs ((1 : Nat) : Int) <;> cases hasB c.Arcs ((2 : Nat) : Int) <;> cases hasB c.Arcs ((3 : Nat) : Int) <;> rfl

/-! ### Libraries -/

def libB (l : qw) : Bool := l.Cells.all cellB && (decide (l.Cells.length ≤ 8) && namesB (l.Cells.map qE.Name))

theorem qnF {l : qw} (h : qgL l) : Ev (fun n => qf7 n l) (libB l) := by
  have hl := h.Cells.len
  have hL : Ev (fun n => qbZ l n ([] : List ByteArray) 0) (bif allN (fun j => cellB (gt l.Cells j)) l.Cells.length then .nxt (l.Cells.map qE.Name, (l.Cells.length : Int)) else .ret false) := by
    refine loopN (Lf := qbZ l) (S := fun j => (l.Cells.take j).map qE.Name) (fun j => cellB (gt l.Cells j)) (fun n => ?_) (fun j hj hp X hX => ?_)
    · simp only [qbZ, qv (Nat.le_refl _), cond_false, List.take_length]
    · simp only [qbZ, qt hj, cond_true, qaq hj, Option.bind_some, qjj hj hl, qfu (g := qE.Name) hj, qq (show j < 9223372036854775807 by omega)]
      exact Ev.chk1 (qp9 (qig h.Cells hj)) hX
  unfold qf7 libB
  rw [qhI]
  refine Ev.bind hL ?_
  cases allN (fun j => cellB (gt l.Cells j)) l.Cells.length
  · exact .done
  · simp only [cond_true, Bool.true_and, show decide ((l.Cells.length : Int) ≤ 8) = decide (l.Cells.length ≤ 8) from qjm (k := 8)]
    exact Ev.andP fun _ => Ev.last (qh4 (qke h.Cells (fun x hx => hx.Name)))
end Go.Fw


namespace Go.Fw
open Go
set_option maxRecDepth 100000

theorem qo7 {c : qE} (h : cellB c = true) : nameB c.Name = true := by
  unfold cellB at h; rw [Bool.and_eq_true] at h; exact h.1
theorem qmm {c : qE} (h : cellB c = true) : pinsB c.Pins = true := by
  unfold cellB at h; simp only [Bool.and_eq_true] at h; exact h.2.1

theorem qmW {l : qw} (h : qgL l) : Ev (fun n => qf9 n l) (libB l) := by
  have hl := h.Cells.len
  have hL2 : ∀ j, j < l.Cells.length → Ev (fun n => qcv l (j : Int) n 0) (bif allN (neB (l.Cells.map qE.Name) j) j then .nxt (j : Int) else .ret false) := by
    intro j hj
    refine qe1 ?_ (fun i hi X hX => Ev.succ ?_)
    · exact Ev.succ (by simp only [qcv, qv (Nat.le_refl _), cond_false]; exact .done)
    · simp only [qcv, qt hi, cond_true, qaq (show i < l.Cells.length by omega), qaq hj, Option.bind_some, qgr, qq (show i < 9223372036854775807 by omega)]
      unfold neB
      rw [qio (g := qE.Name) (show i < l.Cells.length by omega), qio (g := qE.Name) hj]
      exact Ev.chkP1 (fun _ => hX)
  have hL1 : Ev (fun n => qcw l n 0) (bif allN (fun j => cellB (gt l.Cells j) && allN (neB (l.Cells.map qE.Name) j) j) l.Cells.length then .nxt (l.Cells.length : Int) else .ret false) := by
    refine qe1 ?_ (fun j hj X hX => Ev.succ ?_)
    · exact Ev.succ (by simp only [qcw, qv (Nat.le_refl _), cond_false]; exact .done)
    · simp only [qcw, qt hj, cond_true, qaq hj, Option.bind_some, qq (show j < 9223372036854775807 by omega)]
      refine Ev.chk (qoO (qig h.Cells hj)) fun _ => Ev.bind (hL2 j hj) ?_
      cases allN (neB (l.Cells.map qE.Name) j) j
      · exact .done
      · exact hX
  have e : libB l = (allN (fun j => cellB (gt l.Cells j) && allN (neB (l.Cells.map qE.Name) j) j) l.Cells.length && decide (l.Cells.length ≤ 8)) := by
    unfold libB namesB
    rw [qhI, List.length_map, Bool.and_comm (decide (l.Cells.length ≤ 8)), ← Bool.and_assoc, ← qit]
    congr 1
    refine qgK (fun j hj => ?_)
    rw [qio (g := qE.Name) hj]
    cases hc : cellB (gt l.Cells j)
    · rfl
    · rw [qo7 hc]; rfl
  rw [e]
  unfold qf9
  refine Ev.bind hL1 ?_
  cases allN (fun j => cellB (gt l.Cells j) && allN (neB (l.Cells.map qE.Name) j) j) l.Cells.length
  · exact .done
  · refine Ev.now ?_
    show some (decide ((l.Cells.length : Int) ≤ ((8 : Nat) : Int))) = some (true && decide (l.Cells.length ≤ 8))
    rw [qjm, Bool.true_and]

theorem qjf {c c' : Nat → Nat} {m : Nat} {x : Int} (h0 : 0 ≤ x) (h1 : x < m) (hc : c x.toNat < 9223372036854775807) (he : ∀ k, k < m → c' k = c k + (bif x == (k : Int) then 1 else 0)) :
    idx (vecC c m) x = some (c x.toNat : Int) ∧ setS (vecC c m) x (W64 ((c x.toNat : Int) + 1)) = vecC c' m := by
  have ex : x = (x.toNat : Int) := qkF h0
  have e1 := qiy (c := c) (m := m) (k := x.toNat) (by omega)
  have e2 := qng (c := c) (m := m) (k := x.toNat) hc
  rw [← ex] at e1 e2
  refine ⟨e1, e2.trans (qiB (fun k hk => ?_))⟩
  rw [he k hk]
  congr 2
  rw [Bool.eq_iff_iff]; simp; omega

/-! ### Parts of a design -/

def netB (d : ql) (x : Int) : Bool := inI x 0 ((d.Nets.length : Int) - 1)
theorem qn5 {n : Nat} {d : ql} {x : Int} (hl : d.Nets.length ≤ 1048576) : qc3 n d x = some (netB d x) := by
  simp only [qc3, qfs, Option.bind_some, qed, qbX (show d.Nets.length ≤ 9223372036854775807 by omega)]; rfl
theorem qnw {n : Nat} {d : ql} {x : Int} (hl : d.Nets.length ≤ 1048576) : qaA n x 0 (W64 ((d.Nets.length : Int) - 1)) = some (netB d x) := by
  rw [qer, qbX (show d.Nets.length ≤ 9223372036854775807 by omega)]; rfl

def hasNamesB (d : ql) : Bool := (decide (d.Instances.length ≤ 14) && (decide (d.Nets.length ≤ 30) && decide (d.Ports.length ≤ 8))) && (namesB (d.Instances.map qr.Name) && (namesB d.Nets && namesB (d.Ports.map qaw.Name)))

theorem qoa {d : ql} (h : qir d) : Ev (fun n => qdP n d) (hasNamesB d) := by
  have hli := h.Instances.len
  have hlp := h.Ports.len
  have hL1 : Ev (fun n => qaS d n ([] : List ByteArray) 0) (d.Instances.map qr.Name, (d.Instances.length : Int)) := by
    refine loopF (Lf := qaS d) (S := fun j => (d.Instances.take j).map qr.Name) (len := d.Instances.length) (fun n => ?_) (fun j hj X hX => ?_)
    · simp only [qaS, qv (Nat.le_refl _), cond_false, List.take_length]
    · simpa only [qaS, qt hj, cond_true, qaq hj, Option.bind_some, qjj hj hli, qfu (g := qr.Name) hj, qq (show j < 9223372036854775807 by omega)] using hX
  have hL2 : Ev (fun n => qaT d n ([] : List ByteArray) 0) (d.Ports.map qaw.Name, (d.Ports.length : Int)) := by
    refine loopF (Lf := qaT d) (S := fun j => (d.Ports.take j).map qaw.Name) (len := d.Ports.length) (fun n => ?_) (fun j hj X hX => ?_)
    · simp only [qaT, qv (Nat.le_refl _), cond_false, List.take_length]
    · simpa only [qaT, qt hj, cond_true, qaq hj, Option.bind_some, qjj hj hlp, qfu (g := qaw.Name) hj, qq (show j < 9223372036854775807 by omega)] using hX
  unfold qdP hasNamesB
  refine Ev.bind hL1 (Ev.bind hL2 ?_)
  simp only [List.length_map]
  rw [show decide ((d.Instances.length : Int) ≤ 14) = decide (d.Instances.length ≤ 14) from qjm (k := 14), show decide ((d.Nets.length : Int) ≤ 30) = decide (d.Nets.length ≤ 30) from qjm (k := 30), show decide ((d.Ports.length : Int) ≤ 8) = decide (d.Ports.length ≤ 8) from qjm (k := 8)]
  rw [Bool.and_assoc, Bool.and_assoc]
  exact Ev.andP fun _ => Ev.andP fun _ => Ev.andP fun _ => Ev.and (qh4 (qke h.Instances (fun x hx => hx.Name))) fun _ => Ev.and (qh4 h.Nets) fun _ => Ev.last (qh4 (qke h.Ports (fun x hx => hx.Name)))

def instB (l : qw) (d : ql) (x : qr) : Bool := inI x.Cell 0 ((l.Cells.length : Int) - 1) && (((x.Nets.length : Int) == ((gt l.Cells x.Cell.toNat).Pins.length : Int)) && x.Nets.all (netB d))

theorem qnc {d : ql} {l : qw} {x : qr} (hn : d.Nets.length ≤ 1048576) (hc : l.Cells.length ≤ 1048576) (hx : x.Nets.length ≤ 1048576) : Ev (fun n => qcZ n d l x) (instB l d x) := by
  simp only [qcZ, qeA, Option.bind_some, qed, qbX (show l.Cells.length ≤ 9223372036854775807 by omega)]
  unfold instB
  refine Ev.andP fun hI => ?_
  rw [qc5] at hI
  rw [qfU hI.1 (by omega)]
  simp only [Option.bind_some]
  refine Ev.andP fun _ => Ev.bind (b := x.Nets.any fun y => !netB d y) ?_ (Ev.now (by rw [qk2]))
  unfold qay
  exact Ev.bind (b := ixL (fun y => !netB d y) x.Nets) (qei (fin := (x.Nets.length : Int)) (Lf := qM x.Nets d) (pf := fun n y => qcy n y d) (fun y _ => ⟨0, fun n _ => by simp only [qcy, qn5 hn, Option.bind_some]⟩)
      (fun n => by simp only [qM, qv (Nat.le_refl _), cond_false])
      (fun n j y hx => by
        have hj := (List.getElem?_eq_some_iff.1 hx).1
        simp only [qM, qt hj, cond_true, qaJ hx, Option.bind_some, qq (show j < 9223372036854775807 by omega)])
      (fun n => by unfold qaH; congr 1; funext o; cases o <;> rfl)) (Ev.now (by rw [qia]))

def portB (d : ql) (p : qaw) : Bool := inI p.Dir 1 2 && netB d p.Net
theorem qr5 {x : Int} : inI x 1 2 = ((x == 1) || (x == 2)) := by
  unfold inI; rw [Bool.eq_iff_iff]; simp; omega

/-- The net that an instance drives. -/
def lastN (x : qr) : Int := at0 x.Nets (x.Nets.length - 1)
theorem qn7 {x : qr} (h1 : 1 ≤ x.Nets.length) (h2 : x.Nets.length ≤ 1048576) : idx x.Nets (W64 ((x.Nets.length : Int) - 1)) = some (lastN x) := by
  rw [qbX (by omega), show ((x.Nets.length : Int) - 1) = ((x.Nets.length - 1 : Nat) : Int) by omega, qbp (by omega)]; rfl
theorem qpP {d : ql} {x : qr} (h1 : 1 ≤ x.Nets.length) (h : x.Nets.all (netB d) = true) : 0 ≤ lastN x ∧ lastN x < d.Nets.length := by
  rw [qgu (d := 0), qa1] at h
  have := h (x.Nets.length - 1) (by omega)
  unfold netB at this
  rw [qc5] at this
  unfold lastN at0
  omega
theorem qmL {l : qw} {d : ql} {x : qr} (hl : libB l = true) (h : instB l d x = true) : 1 ≤ x.Nets.length ∧ 0 ≤ lastN x ∧ lastN x < d.Nets.length := by
  unfold instB at h
  simp only [Bool.and_eq_true, qc5, beq_iff_eq] at h
  obtain ⟨h1, h2, h3⟩ := h
  unfold libB at hl
  simp only [Bool.and_eq_true] at hl
  have hc := hl.1
  rw [qhI, qa1] at hc
  have := qiA (qmm (hc x.Cell.toNat (by omega)))
  have h4 : 1 ≤ x.Nets.length := by omega
  exact ⟨h4, qpP h4 h3⟩

def drvI (d : ql) (k j : Nat) : Nat := cntP (fun i => lastN (gt d.Instances i) == (k : Int)) j
def drvP (d : ql) (k j : Nat) : Nat := cntP (fun i => ((gt d.Ports i).Dir == 1) && ((gt d.Ports i).Net == (k : Int))) j
def drvB (d : ql) : Bool := allN (fun k => ((drvI d k d.Instances.length + drvP d k d.Ports.length : Nat) : Int) == 1) d.Nets.length
def designB (l : qw) (d : ql) : Bool := (libB l && hasNamesB d) && (d.Instances.all (instB l d) && (d.Ports.all (portB d) && drvB d))

theorem qle {d : ql} {k j : Nat} : drvI d k (j + 1) = drvI d k j + (bif lastN (gt d.Instances j) == (k : Int) then 1 else 0) := rfl
theorem qkd {d : ql} {k j : Nat} : drvP d k (j + 1) = drvP d k j + (bif ((gt d.Ports j).Dir == 1) && ((gt d.Ports j).Net == (k : Int)) then 1 else 0) := rfl

theorem qoq {l : qw} {d : ql} (h : qgL l) (hd : qir d) : Ev (fun n => qgw n l d) (designB l d) := by
  have hli := hd.Instances.len
  have hlp := hd.Ports.len
  have hln := hd.Nets.len
  have hlc := h.Cells.len
  unfold qgw designB
  refine Ev.guardB (Ev.or (qnF h) fun _ => Ev.neg (qoa hd)) fun hb => ?_
  rw [Bool.and_eq_true] at hb
  rw [qj9 (m := d.Nets.length) (by omega)]
  simp only [Option.bind_some]
  have hL1 : Ev (fun n => qck l d n (vecC (fun _ => 0) d.Nets.length) 0) (bif allN (fun j => instB l d (gt d.Instances j)) d.Instances.length then .nxt (vecC (fun k => drvI d k d.Instances.length) d.Nets.length, (d.Instances.length : Int)) else .ret false) := by
    refine loopN (Lf := qck l d) (S := fun j => vecC (fun k => drvI d k j) d.Nets.length) (fun j => instB l d (gt d.Instances j)) (fun n => ?_) (fun j hj hp X hX => ?_)
    · simp only [qck, qv (Nat.le_refl _), cond_false]
    · simp only [qck, qt hj, cond_true, qaq hj, Option.bind_some, qq (show j < 9223372036854775807 by omega)]
      have hxl := (qig hd.Instances hj).Nets.len
      refine Ev.chk1 (qnc hln hlc hxl) fun hi => ?_
      obtain ⟨h1, h2, h3⟩ := qmL hb.1 hi
      have hc : drvI d (lastN (gt d.Instances j)).toNat j ≤ j := qeR
      obtain ⟨e1, e2⟩ := qjf (c := fun k => drvI d k j) (c' := fun k => drvI d k (j + 1)) h2 h3 (by show drvI _ _ _ < _; omega) (fun k _ => qle)
      simp only [qn7 h1 hxl, Option.bind_some, e1, e2]
      exact hX hi
  have hL2 : Ev (fun n => qbJ d n (vecC (fun k => drvI d k d.Instances.length) d.Nets.length) 0) (bif allN (fun j => portB d (gt d.Ports j)) d.Ports.length then .nxt (vecC (fun k => drvI d k d.Instances.length + drvP d k d.Ports.length) d.Nets.length, (d.Ports.length : Int)) else .ret false) := by
    refine loopN (Lf := qbJ d) (S := fun j => vecC (fun k => drvI d k d.Instances.length + drvP d k j) d.Nets.length) (fun j => portB d (gt d.Ports j)) (fun n => ?_) (fun j hj hp X hX => ?_)
    · simp only [qbJ, qv (Nat.le_refl _), cond_false]
    · simp only [qbJ, qt hj, cond_true, qaq hj, Option.bind_some, qn5 hln, bne, qq (show j < 9223372036854775807 by omega)]
      refine Ev.chkT1 ?_ fun hi => ?_
      · unfold portB
        rw [qr5]
        cases ((gt d.Ports j).Dir == 1) <;> cases ((gt d.Ports j).Dir == 2) <;> exact .done
      · have hX := hX hi
        unfold portB netB at hi
        simp only [Bool.and_eq_true, qc5] at hi
        have hc1 : drvI d (gt d.Ports j).Net.toNat d.Instances.length ≤ d.Instances.length := qeR
        have hc2 : drvP d (gt d.Ports j).Net.toNat j ≤ j := qeR
        cases h1 : ((gt d.Ports j).Dir == 1)
        · have : vecC (fun k => drvI d k d.Instances.length + drvP d k (j + 1)) d.Nets.length = vecC (fun k => drvI d k d.Instances.length + drvP d k j) d.Nets.length := by
            refine qiB (fun k _ => ?_)
            rw [qkd, h1]; rfl
          rw [this] at hX
          exact hX
        · obtain ⟨e1, e2⟩ := qjf (c := fun k => drvI d k d.Instances.length + drvP d k j) (c' := fun k => drvI d k d.Instances.length + drvP d k (j + 1)) (x := (gt d.Ports j).Net) (m := d.Nets.length) hi.2.1 (by omega) (by show drvI _ _ _ + drvP _ _ _ < _; omega) (fun k _ => by rw [qkd, h1, Bool.true_and]; omega)
          simp only [cond_true, Option.bind_some, e1, e2]
          exact hX
  rw [qhI, qhI]
  refine Ev.bind hL1 ?_
  cases allN (fun j => instB l d (gt d.Instances j)) d.Instances.length
  · exact .done
  · refine Ev.bind hL2 ?_
    cases allN (fun j => portB d (gt d.Ports j)) d.Ports.length
    · exact .done
    · simp only [cond_true, Bool.true_and]
      unfold qbk
      refine Ev.bind (b := (vecC (fun k => drvI d k d.Instances.length + drvP d k d.Ports.length) d.Nets.length).any fun x => !(x == 1)) (Ev.bind (b := ixL (fun x => !(x == 1)) (vecC (fun k => drvI d k d.Instances.length + drvP d k d.Ports.length) d.Nets.length)) (qei (fin := (((vecC (fun k => drvI d k d.Instances.length + drvP d k d.Ports.length) d.Nets.length).length : Nat) : Int)) (Lf := qY (vecC (fun k => drvI d k d.Instances.length + drvP d k d.Ports.length) d.Nets.length)) (pf := fun n y => qgG n y) (fun y _ => .done)
        (fun n => by simp only [qY, qv (Nat.le_refl _), cond_false])
        (fun n j y hx => by
          have hj := (List.getElem?_eq_some_iff.1 hx).1
          have : j < d.Nets.length := by rw [qj4] at hj; exact hj
          simp only [qY, qt hj, cond_true, qaJ hx, Option.bind_some, qq (show j < 9223372036854775807 by omega)])
        (fun n => by unfold qbw; congr 1; funext o; cases o <;> rfl)) (Ev.now (by rw [qia]))) (Ev.now ?_)
      rw [qk2, qgu (d := 0), qj4]
      unfold drvB
      congr 1
      exact qgK (fun k hk => by
        have := qoD (c := fun k => drvI d k d.Instances.length + drvP d k d.Ports.length) hk
        unfold at0 at this
        rw [this])

theorem qoC {l : qw} {d : ql} (h : qgL l) (hd : qir d) : Ev (fun n => qgo n l d) (d.Instances.all (instB l d) && d.Ports.all (portB d)) := by
  have hli := hd.Instances.len
  have hlp := hd.Ports.len
  have hln := hd.Nets.len
  have hlc := h.Cells.len
  have hL2 : ∀ x : qr, x.Nets.length ≤ 1048576 → Ev (fun n => qcR d x n 0) (bif x.Nets.all (netB d) then .nxt (x.Nets.length : Int) else .ret false) := fun x hx =>
    qj1 (fun n => by simp only [qcR, qv (Nat.le_refl _), cond_false]) (fun j hj X hX => by
      simp only [qcR, qt hj, cond_true, qgN hj, Option.bind_some, qnw hln, qq (show j < 9223372036854775807 by omega), qbA]
      exact Ev.okP1 fun _ => hX)
  have hL1 : Ev (fun n => qcQ l d n 0) (bif allN (fun j => instB l d (gt d.Instances j)) d.Instances.length then .nxt (d.Instances.length : Int) else .ret false) := by
    refine qe1 ?_ (fun j hj X hX => Ev.succ ?_)
    · exact Ev.succ (by simp only [qcQ, qv (Nat.le_refl _), cond_false]; exact .done)
    · simp only [qcQ, qt hj, cond_true, qaq hj, Option.bind_some, qer, qbX (show l.Cells.length ≤ 9223372036854775807 by omega), qq (show j < 9223372036854775807 by omega), bne]
      have hxl := (qig hd.Instances hj).Nets.len
      unfold instB
      rw [← Bool.and_assoc]
      refine Ev.chkT ?_ fun _ => Ev.bind (hL2 _ hxl) ?_
      · simp only [qbA]
        refine Ev.orBP fun hI => ?_
        rw [qc5] at hI
        rw [qfU hI.1 (by omega)]
        exact .done
      · cases (gt d.Instances j).Nets.all (netB d)
        · exact .done
        · exact hX
  have hL3 : Ev (fun n => qcH d n 0) (bif allN (fun j => portB d (gt d.Ports j)) d.Ports.length then .nxt (d.Ports.length : Int) else .ret false) := by
    refine qe1 ?_ (fun j hj X hX => Ev.succ ?_)
    · exact Ev.succ (by simp only [qcH, qv (Nat.le_refl _), cond_false]; exact .done)
    · simp only [qcH, qt hj, cond_true, qaq hj, Option.bind_some, qnw hln, qq (show j < 9223372036854775807 by omega)]
      simp only [qer, Option.bind_some, qbA]
      unfold portB
      exact Ev.okP fun _ => Ev.okP1 fun _ => hX
  unfold qgo
  rw [qhI, qhI]
  refine Ev.bind hL1 ?_
  cases allN (fun j => instB l d (gt d.Instances j)) d.Instances.length
  · exact .done
  · refine Ev.bind hL3 ?_
    cases allN (fun j => portB d (gt d.Ports j)) d.Ports.length <;> exact .done

theorem qkO {l : qw} {d : ql} (h : qgL l) (hd : qir d) : Ev (fun n => qfH n l d) (designB l d) := by
  have hli := hd.Instances.len
  have hlp := hd.Ports.len
  have hln := hd.Nets.len
  have hlc := h.Cells.len
  have e : designB l d = ((libB l && (decide (d.Instances.length ≤ 14) && (decide (d.Nets.length ≤ 30) && (decide (d.Ports.length ≤ 8) && (d.Instances.all (instB l d) && d.Ports.all (portB d)))))) && ((namesB (d.Instances.map qr.Name) && (namesB (d.Ports.map qaw.Name) && namesB d.Nets)) && drvB d)) := by
    unfold designB hasNamesB
    generalize libB l = a1
    generalize decide (d.Instances.length ≤ 14) = a2
    generalize decide (d.Nets.length ≤ 30) = a3
    generalize decide (d.Ports.length ≤ 8) = a4
    generalize d.Instances.all (instB l d) = a5
    generalize d.Ports.all (portB d) = a6
    generalize namesB (d.Instances.map qr.Name) = a7
    generalize namesB (d.Ports.map qaw.Name) = a8
    generalize namesB d.Nets = a9
    generalize drvB d = a10
    rw [Bool.eq_iff_iff]
    simp only [Bool.and_eq_true]
    constructor
    · rintro ⟨⟨h1, ⟨h2, h3, h4⟩, h7, h9, h8⟩, h5, h6, h10⟩
      exact ⟨⟨h1, h2, h3, h4, h5, h6⟩, ⟨h7, h8, h9⟩, h10⟩
    · rintro ⟨⟨h1, h2, h3, h4, h5, h6⟩, ⟨h7, h8, h9⟩, h10⟩
      exact ⟨⟨h1, ⟨h2, h3, h4⟩, h7, h9, h8⟩, h5, h6, h10⟩
  rw [e]
  unfold qfH
  refine Ev.guardB ?_ fun hb => ?_
  · refine Ev.or (qmW h) fun _ => ?_
    rw [show decide ((d.Instances.length : Int) > 14) = !decide (d.Instances.length ≤ 14) by rw [Bool.eq_iff_iff]; simp; omega, show decide ((d.Nets.length : Int) > 30) = !decide (d.Nets.length ≤ 30) by rw [Bool.eq_iff_iff]; simp; omega, show decide ((d.Ports.length : Int) > 8) = !decide (d.Ports.length ≤ 8) by rw [Bool.eq_iff_iff]; simp; omega]
    simp only [qbA]
    exact Ev.orBP fun _ => Ev.orBP fun _ => Ev.orBP fun _ => Ev.neg (qoC h hd)
  · simp only [Bool.and_eq_true] at hb
    obtain ⟨hlib, _, _, _, hI, hP⟩ := hb
    rw [qhI, qa1] at hI hP
    have hL1 : Ev (fun n => qcg d n ([] : List ByteArray) 0) (d.Instances.map qr.Name, (d.Instances.length : Int)) := by
      refine loopF (Lf := qcg d) (S := fun j => (d.Instances.take j).map qr.Name) (len := d.Instances.length) (fun n => ?_) (fun j hj X hX => ?_)
      · simp only [qcg, qv (Nat.le_refl _), cond_false, List.take_length]
      · simpa only [qcg, qt hj, cond_true, qaq hj, Option.bind_some, qjj hj hli, qfu (g := qr.Name) hj, qq (show j < 9223372036854775807 by omega)] using hX
    have hL2 : Ev (fun n => qcn d n ([] : List ByteArray) 0) (d.Ports.map qaw.Name, (d.Ports.length : Int)) := by
      refine loopF (Lf := qcn d) (S := fun j => (d.Ports.take j).map qaw.Name) (len := d.Ports.length) (fun n => ?_) (fun j hj X hX => ?_)
      · simp only [qcn, qv (Nat.le_refl _), cond_false, List.take_length]
      · simpa only [qcn, qt hj, cond_true, qaq hj, Option.bind_some, qjj hj hlp, qfu (g := qaw.Name) hj, qq (show j < 9223372036854775807 by omega)] using hX
    have hL3 : Ev (fun n => qce d n (vecC (fun _ => 0) d.Nets.length) 0) (vecC (fun k => drvI d k d.Instances.length) d.Nets.length, (d.Instances.length : Int)) := by
      refine loopF (Lf := qce d) (S := fun j => vecC (fun k => drvI d k j) d.Nets.length) (len := d.Instances.length) (fun n => ?_) (fun j hj X hX => ?_)
      · simp only [qce, qv (Nat.le_refl _), cond_false]
      · have hxl := (qig hd.Instances hj).Nets.len
        obtain ⟨h1, h2, h3⟩ := qmL hlib (hI j hj)
        have hc : drvI d (lastN (gt d.Instances j)).toNat j ≤ j := qeR
        obtain ⟨e1, e2⟩ := qjf (c := fun k => drvI d k j) (c' := fun k => drvI d k (j + 1)) h2 h3 (by show drvI _ _ _ < _; omega) (fun k _ => qle)
        simpa only [qce, qt hj, cond_true, qaq hj, Option.bind_some, qq (show j < 9223372036854775807 by omega), qn7 h1 hxl, e1, e2] using hX
    have hL4 : Ev (fun n => qbN d n (vecC (fun k => drvI d k d.Instances.length) d.Nets.length) 0) (vecC (fun k => drvI d k d.Instances.length + drvP d k d.Ports.length) d.Nets.length, (d.Ports.length : Int)) := by
      refine loopF (Lf := qbN d) (S := fun j => vecC (fun k => drvI d k d.Instances.length + drvP d k j) d.Nets.length) (len := d.Ports.length) (fun n => ?_) (fun j hj X hX => ?_)
      · simp only [qbN, qv (Nat.le_refl _), cond_false]
      · have hi := hP j hj
        unfold portB netB at hi
        simp only [Bool.and_eq_true, qc5] at hi
        have hc1 : drvI d (gt d.Ports j).Net.toNat d.Instances.length ≤ d.Instances.length := qeR
        have hc2 : drvP d (gt d.Ports j).Net.toNat j ≤ j := qeR
        simp only [qbN, qt hj, cond_true, qaq hj, Option.bind_some, qq (show j < 9223372036854775807 by omega)]
        cases h1 : ((gt d.Ports j).Dir == 1)
        · have : vecC (fun k => drvI d k d.Instances.length + drvP d k (j + 1)) d.Nets.length = vecC (fun k => drvI d k d.Instances.length + drvP d k j) d.Nets.length := by
            refine qiB (fun k _ => ?_)
            rw [qkd, h1]; rfl
          rw [this] at hX
          exact hX
        · obtain ⟨e1, e2⟩ := qjf (c := fun k => drvI d k d.Instances.length + drvP d k j) (c' := fun k => drvI d k d.Instances.length + drvP d k (j + 1)) (x := (gt d.Ports j).Net) (m := d.Nets.length) hi.2.1 (by omega) (by show drvI _ _ _ + drvP _ _ _ < _; omega) (fun k _ => by rw [qkd, h1, Bool.true_and]; omega)
          simp only [cond_true, Option.bind_some, e1, e2]
          exact hX
    have hL5 : Ev (fun n => qcI (vecC (fun _ => 0) d.Nets.length) (vecC (fun k => drvI d k d.Instances.length + drvP d k d.Ports.length) d.Nets.length) n 0) (bif drvB d then .nxt (d.Nets.length : Int) else .ret false) := by
      refine qe1 ?_ (fun j hj X hX => Ev.succ ?_)
      · exact Ev.succ (by simp only [qcI, qj4, qv (Nat.le_refl _), cond_false]; exact .done)
      · simp only [qcI, qj4, qt hj, cond_true, qiy hj, Option.bind_some, bne, qbA, qq (show j < 9223372036854775807 by omega)]
        exact Ev.okP1 fun _ => hX
    refine Ev.bind hL1 (Ev.bind hL2 ?_)
    refine Ev.guardB (Ev.or (qjZ (qke hd.Instances (fun x hx => hx.Name))) fun _ => Ev.or (qjZ (qke hd.Ports (fun x hx => hx.Name))) fun _ => Ev.neg (qjZ hd.Nets)) fun _ => ?_
    rw [qj9 (m := d.Nets.length) (by omega)]
    simp only [Option.bind_some]
    refine Ev.bind hL3 (Ev.bind hL4 (Ev.bind hL5 ?_))
    cases drvB d <;> exact .done
end Go.Fw


namespace Go.Fw
open Go
set_option maxRecDepth 100000

theorem qpF {m k : Nat} : decide ((m : Int) < (k : Int)) = !decide (k ≤ m) := by rw [Bool.eq_iff_iff]; simp
theorem qjr {m k : Nat} : decide ((m : Int) > (k : Int)) = !decide (m ≤ k) := by rw [Bool.eq_iff_iff]; simp
/-! ### Wires -/

def treeB (w : qaj) (j : Nat) : Bool := bif decide (j = 0) then (at0 w.Parent j == -1) && (at0 w.Res j == 0) else inI (at0 w.Parent j) 0 ((j : Int) - 1)
def wireB (w : qaj) (s : Int) : Bool :=
  lenB w.Parent 1 8 && (((w.Res.length : Int) == (w.Parent.length : Int)) && (((w.Cap.length : Int) == (w.Parent.length : Int)) && (allN (treeB w) w.Parent.length &&
    ((w.Res.all fun x => inI x 0 1000) && ((w.Cap.all fun x => inI x 0 500) && (((w.Sink.length : Int) == s) && (w.Sink.all fun x => inI x 0 ((w.Parent.length : Int) - 1))))))))

theorem qqa {w : qaj} (hl : w.Parent.length ≤ 1048576) (hr : ((w.Res.length : Int) == (w.Parent.length : Int)) = true) : Ev (fun n => qfc n w) (allN (treeB w) w.Parent.length) := by
  rw [beq_iff_eq] at hr
  have hL : Ev (fun n => qa0 w n 0) (bif allN (treeB w) w.Parent.length then .nxt (w.Parent.length : Int) else .ret false) := by
    refine qe1 ?_ (fun j hj X hX => Ev.succ ?_)
    · exact Ev.succ (by simp only [qa0, qv (Nat.le_refl _), cond_false]; exact .done)
    · simp only [qa0, qt hj, cond_true, qbp hj, Option.bind_some, qed, qq (show j < 9223372036854775807 by omega), bne, qbA]
      unfold treeB
      by_cases h0 : j = 0
      · subst h0
        rw [show idx w.Res (0 : Int) = some (at0 w.Res 0) from qbp (j := 0) (by omega)]
        simp only [Option.bind_some]
        refine Ev.tt (by simp) (Ev.okP fun _ => Ev.okP1 fun _ => Ev.ff (by simp) hX)
      · have e1 : decide (j = 0) = false := by simp; omega
        have e2 : ((j : Int) == 0) = false := by simp; omega
        have e3 : decide ((j : Int) > 0) = true := by simp; omega
        rw [e1, e2, e3, qbX (show j ≤ 9223372036854775807 by omega)]
        simp only [cond_false, cond_true]
        exact Ev.okP1 fun _ => hX
  unfold qfc
  refine Ev.bind hL ?_
  cases allN (treeB w) w.Parent.length <;> exact .done

theorem qpR {w : qaj} {s : Int} (h : qkV w) : Ev (fun n => qh7 n w s) (wireB w s) := by
  have hl := h.Parent.len
  simp only [qh7, qan, Option.bind_some, qed, qbX (show w.Parent.length ≤ 9223372036854775807 by omega)]
  unfold wireB
  rw [show inI (w.Parent.length : Int) 1 8 = lenB w.Parent 1 8 from ql7 (lo := 1) (hi := 8)]
  exact Ev.andP fun _ => Ev.andP fun hr => Ev.andP fun _ => Ev.and (qqa hl hr) fun _ => Ev.and (qeL h.Res.len) fun _ => Ev.and (qeL h.Cap.len) fun _ => Ev.andP fun _ => Ev.last (qeL h.Sink.len)

theorem qpn {w : qaj} {s : Int} (h : qkV w) : Ev (fun n => qh5 n w s) (wireB w s) := by
  have hl := h.Parent.len
  have hsl := h.Sink.len
  have e : wireB w s = ((decide (1 ≤ w.Parent.length) && (decide (w.Parent.length ≤ 8) && (((w.Res.length : Int) == (w.Parent.length : Int)) && (((w.Cap.length : Int) == (w.Parent.length : Int)) && ((w.Sink.length : Int) == s))))) && (allN (fun j => (inI (at0 w.Cap j) 0 500 && inI (at0 w.Res j) 0 1000) && treeB w j) w.Parent.length && (w.Sink.all fun x => inI x 0 ((w.Parent.length : Int) - 1)))) := by
    unfold wireB lenB
    cases h1 : ((w.Res.length : Int) == (w.Parent.length : Int))
    · simp
    · cases h2 : ((w.Cap.length : Int) == (w.Parent.length : Int))
      · simp
      · rw [beq_iff_eq] at h1 h2
        rw [qit, qit]
        rw [qgu (p := fun x => inI x 0 1000) (d := 0), qgu (p := fun x => inI x 0 500) (d := 0), show w.Res.length = w.Parent.length by omega, show w.Cap.length = w.Parent.length by omega]
        show _ = (_ && ((allN (fun j => inI (w.Cap.getD j 0) 0 500) _ && allN (fun j => inI (w.Res.getD j 0) 0 1000) _ && _) && _))
        generalize allN (fun j => inI (w.Cap.getD j 0) 0 500) w.Parent.length = a1
        generalize allN (fun j => inI (w.Res.getD j 0) 0 1000) w.Parent.length = a2
        generalize allN (fun j => treeB w j) w.Parent.length = a3
        generalize ((w.Sink.length : Int) == s) = a4
        generalize decide (1 ≤ w.Parent.length) = a5
        generalize decide (w.Parent.length ≤ 8) = a6
        generalize (w.Sink.all fun x => inI x 0 ((w.Parent.length : Int) - 1)) = a7
        cases a1 <;> cases a2 <;> cases a3 <;> cases a4 <;> cases a5 <;> cases a6 <;> rfl
  rw [e]
  unfold qh5
  refine Ev.guardB ?_ fun hb => ?_
  · rw [show decide ((w.Parent.length : Int) < 1) = !decide (1 ≤ w.Parent.length) from qpF (k := 1), show decide ((w.Parent.length : Int) > 8) = !decide (w.Parent.length ≤ 8) from qjr (k := 8)]
    simp only [bne, qbA]
    exact Ev.orBP fun _ => Ev.orBP fun _ => Ev.orBP fun _ => Ev.orBP fun _ => .done
  · simp only [Bool.and_eq_true, beq_iff_eq] at hb
    have hL1 : Ev (fun n => qb4 w n 0) (bif allN (fun j => (inI (at0 w.Cap j) 0 500 && inI (at0 w.Res j) 0 1000) && treeB w j) w.Parent.length then .nxt (w.Parent.length : Int) else .ret false) := by
      refine qe1 ?_ (fun j hj X hX => Ev.succ ?_)
      · exact Ev.succ (by simp only [qb4, qv (Nat.le_refl _), cond_false]; exact .done)
      · simp only [qb4, qt hj, cond_true, qbp hj, qbp (show j < w.Cap.length by omega), qbp (show j < w.Res.length by omega), Option.bind_some, qer, qq (show j < 9223372036854775807 by omega), bne, qbA]
        refine Ev.chkT (Ev.orBP fun _ => .done) fun _ => ?_
        unfold treeB
        by_cases h0 : j = 0
        · subst h0
          refine Ev.tt (by simp) (Ev.okP fun _ => Ev.okP1 fun _ => Ev.ff (by simp) hX)
        · have e1 : decide (j = 0) = false := by simp; omega
          have e2 : ((j : Int) == 0) = false := by simp; omega
          have e3 : decide ((j : Int) > 0) = true := by simp; omega
          rw [e1, e2, e3, qbX (show j ≤ 9223372036854775807 by omega)]
          simp only [cond_false, cond_true]
          exact Ev.okP1 fun _ => hX
    have hL2 : Ev (fun n => qdy w n 0) (bif (w.Sink.all fun x => inI x 0 ((w.Parent.length : Int) - 1)) then .nxt (w.Sink.length : Int) else .ret false) :=
      qj1 (fun n => by simp only [qdy, qv (Nat.le_refl _), cond_false]) (fun j hj X hX => by
        simp only [qdy, qt hj, cond_true, qgN hj, Option.bind_some, qer, qbX (show w.Parent.length ≤ 9223372036854775807 by omega), qq (show j < 9223372036854775807 by omega), qbA]
        exact Ev.okP1 fun _ => hX)
    refine Ev.bind hL1 ?_
    cases allN (fun j => (inI (at0 w.Cap j) 0 500 && inI (at0 w.Res j) 0 1000) && treeB w j) w.Parent.length
    · exact .done
    · refine Ev.bind hL2 ?_
      cases (w.Sink.all fun x => inI x 0 ((w.Parent.length : Int) - 1)) <;> exact .done

/-! ### Places -/

instance : Inhabited Tplace := ⟨⟨0, 0, 0, false⟩⟩
instance : Inhabited Tl05Place := ⟨⟨0, 0, 0, false⟩⟩
def toSp (p : Tplace) : Tl05Place := ⟨p.instance_, p.pin, p.net, p.drives⟩
def plX (i : Nat) (x : qr) (j : Nat) : List Tplace := (List.range j).map fun (k : Nat) => ⟨(i : Int), (k : Int), at0 x.Nets k, decide (k + 1 = x.Nets.length)⟩
def plI (d : ql) (j : Nat) : List Tplace := (List.range j).flatMap fun (i : Nat) => plX i (gt d.Instances i) (gt d.Instances i).Nets.length
def plP (d : ql) (j : Nat) : List Tplace := (List.range j).map fun (i : Nat) => ⟨-1, (i : Int), (gt d.Ports i).Net, (gt d.Ports i).Dir == 1⟩
def places (d : ql) : List Tplace := plI d d.Instances.length ++ plP d d.Ports.length

theorem qod {i : Nat} {x : qr} {j : Nat} : plX i x (j + 1) = plX i x j ++ [⟨(i : Int), (j : Int), at0 x.Nets j, decide (j + 1 = x.Nets.length)⟩] := by
  unfold plX; rw [List.range_succ, List.map_append]; rfl
theorem qjV {d : ql} {j : Nat} : plI d (j + 1) = plI d j ++ plX j (gt d.Instances j) (gt d.Instances j).Nets.length := by
  unfold plI; rw [List.range_succ, List.flatMap_append]; simp
theorem qox {d : ql} {j : Nat} : plP d (j + 1) = plP d j ++ [⟨-1, (j : Int), (gt d.Ports j).Net, (gt d.Ports j).Dir == 1⟩] := by
  unfold plP; rw [List.range_succ, List.map_append]; rfl
theorem qma {i : Nat} {x : qr} {j : Nat} : (plX i x j).length = j := by simp [plX]
theorem qmb {d : ql} {j : Nat} : (plP d j).length = j := by simp [plP]

/-- What a valid design says of its sizes. -/
structure smallD (d : ql) : Prop where
  ni : d.Instances.length ≤ 14
  nn : d.Nets.length ≤ 30
  np : d.Ports.length ≤ 8
  nx : ∀ i, i < d.Instances.length → 2 ≤ (gt d.Instances i).Nets.length ∧ (gt d.Instances i).Nets.length ≤ 5

theorem qa5 {l : qw} {d : ql} (h : designB l d = true) : smallD d := by
  unfold designB hasNamesB libB at h
  simp only [Bool.and_eq_true, decide_eq_true_eq] at h
  obtain ⟨⟨⟨hc, _⟩, ⟨h1, h2, h3⟩, _⟩, hI, _⟩ := h
  refine ⟨h1, h2, h3, fun i hi => ?_⟩
  rw [qhI, qa1] at hI hc
  have := hI i hi
  unfold instB at this
  simp only [Bool.and_eq_true, qc5, beq_iff_eq] at this
  have h5 := qiA (qmm (hc (gt d.Instances i).Cell.toNat (by omega)))
  omega
theorem qkY {d : ql} (h : smallD d) {j : Nat} (hj : j ≤ d.Instances.length) : (plI d j).length ≤ 5 * j := by
  induction j with
  | zero => exact Nat.le_refl _
  | succ j ih =>
    rw [qjV, List.length_append, qma]
    have := ih (by omega)
    have := h.nx j (by omega)
    omega
theorem qcq {d : ql} (h : smallD d) : (places d).length ≤ 78 := by
  unfold places
  rw [List.length_append, qmb]
  have := qkY h (Nat.le_refl _)
  have := h.ni
  have := h.np
  omega

theorem qka {d : ql} (h : smallD d) : Ev (fun n => qb5 n d) (places d) := by
  have h1 := h.ni
  have h2 := h.np
  have hL2 : ∀ i, i < d.Instances.length → ∀ pre : List Tplace, pre.length ≤ 100 → Ev (fun n => qbb (i : Int) (gt d.Instances i) n pre 0) (pre ++ plX i (gt d.Instances i) (gt d.Instances i).Nets.length, ((gt d.Instances i).Nets.length : Int)) := by
    intro i hi pre hp
    have h5 := h.nx i hi
    have := loopF (Lf := qbb (i : Int) (gt d.Instances i)) (S := fun j => pre ++ plX i (gt d.Instances i) j) (len := (gt d.Instances i).Nets.length) (fin := (pre ++ plX i (gt d.Instances i) (gt d.Instances i).Nets.length, ((gt d.Instances i).Nets.length : Int))) (fun n => by
        simp only [qbb, qv (Nat.le_refl _), cond_false])
      (fun j hj X hX => by
        have hc : (pre ++ plX i (gt d.Instances i) j).length + [(⟨(i : Int), (j : Int), at0 (gt d.Instances i).Nets j, decide (j + 1 = (gt d.Instances i).Nets.length)⟩ : Tplace)].length ≤ 2147483648 := by
          rw [List.length_append, qma]; simp; omega
        simp only [qbb, qt hj, cond_true, qbp hj, Option.bind_some, lastE hj (show (gt d.Instances i).Nets.length ≤ 1048576 by omega), qdS hc, List.append_assoc, ← qod, qq (show j < 9223372036854775807 by omega)]
        exact hX)
    simpa [plX] using this
  have hL1 : Ev (fun n => qbd d n ([] : List Tplace) 0) (plI d d.Instances.length, (d.Instances.length : Int)) := by
    refine loopF (Lf := qbd d) (S := fun j => plI d j) (len := d.Instances.length) (fun n => ?_) (fun j hj X hX => ?_)
    · simp only [qbd, qv (Nat.le_refl _), cond_false]
    · simp only [qbd, qt hj, cond_true, qaq hj, Option.bind_some, qq (show j < 9223372036854775807 by omega)]
      refine Ev.bind (hL2 j hj _ (by have := qkY h (Nat.le_of_lt hj); omega)) ?_
      rw [← qjV]
      exact hX
  have hL3 : Ev (fun n => qbc d n (plI d d.Instances.length) 0) (places d, (d.Ports.length : Int)) := by
    have := loopF (Lf := qbc d) (S := fun j => plI d d.Instances.length ++ plP d j) (len := d.Ports.length) (fin := (places d, (d.Ports.length : Int))) (fun n => by
        simp only [qbc, qv (Nat.le_refl _), cond_false]; rfl)
      (fun j hj X hX => by
        have hc : (plI d d.Instances.length ++ plP d j).length + [(⟨-1, (j : Int), (gt d.Ports j).Net, (gt d.Ports j).Dir == 1⟩ : Tplace)].length ≤ 2147483648 := by
          rw [List.length_append, qmb]; have := qkY h (Nat.le_refl _); simp; omega
        simp only [qbc, qt hj, cond_true, qaq hj, Option.bind_some, qdS hc, List.append_assoc, ← qox, qq (show j < 9223372036854775807 by omega)]
        exact hX)
    simpa [plP] using this
  unfold qb5
  exact Ev.bind hL1 (Ev.bind hL3 .done)

theorem qhC {d : ql} (h : smallD d) : Ev (fun n => qc0 n d) ((places d).map toSp) := by
  have h1 := h.ni
  have h2 := h.np
  have hL2 : ∀ i, i < d.Instances.length → ∀ pre : List Tplace, pre.length ≤ 100 → Ev (fun n => qb2 (i : Int) (gt d.Instances i) n (pre.map toSp) 0) ((pre ++ plX i (gt d.Instances i) (gt d.Instances i).Nets.length).map toSp, ((gt d.Instances i).Nets.length : Int)) := by
    intro i hi pre hp
    have h5 := h.nx i hi
    have := loopF (Lf := qb2 (i : Int) (gt d.Instances i)) (S := fun j => (pre ++ plX i (gt d.Instances i) j).map toSp) (len := (gt d.Instances i).Nets.length) (fin := ((pre ++ plX i (gt d.Instances i) (gt d.Instances i).Nets.length).map toSp, ((gt d.Instances i).Nets.length : Int))) (fun n => by
        simp only [qb2, qv (Nat.le_refl _), cond_false])
      (fun j hj X hX => by
        have hc : ((pre ++ plX i (gt d.Instances i) j).map toSp).length + [(⟨(i : Int), (j : Int), at0 (gt d.Instances i).Nets j, decide (j + 1 = (gt d.Instances i).Nets.length)⟩ : Tl05Place)].length ≤ 2147483648 := by
          rw [List.length_map, List.length_append, qma]; simp; omega
        simp only [qb2, qt hj, cond_true, qbp hj, Option.bind_some, lastE hj (show (gt d.Instances i).Nets.length ≤ 1048576 by omega), qdS hc, qq (show j < 9223372036854775807 by omega)]
        rw [qod, ← List.append_assoc, List.map_append] at hX
        exact hX)
    simpa [plX] using this
  have hL1 : Ev (fun n => qbY d n ([] : List Tl05Place) 0) ((plI d d.Instances.length).map toSp, (d.Instances.length : Int)) := by
    refine loopF (Lf := qbY d) (S := fun j => (plI d j).map toSp) (len := d.Instances.length) (fun n => ?_) (fun j hj X hX => ?_)
    · simp only [qbY, qv (Nat.le_refl _), cond_false]
    · simp only [qbY, qt hj, cond_true, qaq hj, Option.bind_some, qq (show j < 9223372036854775807 by omega)]
      refine Ev.bind (hL2 j hj _ (by have := qkY h (Nat.le_of_lt hj); omega)) ?_
      rw [← qjV]
      exact hX
  have hL3 : Ev (fun n => qbW d n ((plI d d.Instances.length).map toSp) 0) ((places d).map toSp, (d.Ports.length : Int)) := by
    have := loopF (Lf := qbW d) (S := fun j => (plI d d.Instances.length ++ plP d j).map toSp) (len := d.Ports.length) (fin := ((places d).map toSp, (d.Ports.length : Int))) (fun n => by
        simp only [qbW, qv (Nat.le_refl _), cond_false]; rfl)
      (fun j hj X hX => by
        have hc : ((plI d d.Instances.length ++ plP d j).map toSp).length + [(⟨-1, (j : Int), (gt d.Ports j).Net, (gt d.Ports j).Dir == 1⟩ : Tl05Place)].length ≤ 2147483648 := by
          rw [List.length_map, List.length_append, qmb]; have := qkY h (Nat.le_refl _); simp; omega
        simp only [qbW, qt hj, cond_true, qaq hj, Option.bind_some, qdS hc, qq (show j < 9223372036854775807 by omega)]
        rw [qox, ← List.append_assoc, List.map_append] at hX
        exact hX)
    simpa [plP] using this
  unfold qc0
  exact Ev.bind hL1 (Ev.bind hL3 .done)

def snkQ (d : ql) (k : Int) (i : Nat) : Bool := ((gt (places d) i).net == k) && !(gt (places d) i).drives
def sinksL (d : ql) (k : Int) (j : Nat) : List Int := ((List.range j).filter (snkQ d k)).map fun (i : Nat) => (i : Int)
def snkN (d : ql) (k : Int) : Nat := cntP (snkQ d k) (places d).length
theorem qiM {d : ql} {k : Int} {j : Nat} : sinksL d k (j + 1) = sinksL d k j ++ (bif snkQ d k j then [(j : Int)] else []) := by
  unfold sinksL
  rw [List.range_succ, List.filter_append, List.map_append]
  congr 1
  cases h : snkQ d k j <;> simp [h]
theorem qfm {d : ql} {k : Int} {j : Nat} : (sinksL d k j).length = cntP (snkQ d k) j := by
  induction j with
  | zero => rfl
  | succ j ih =>
    rw [qiM, List.length_append, ih]
    show _ = cntP (snkQ d k) j + _
    congr 1
    cases snkQ d k j <;> rfl
theorem qla {α β : Type} [Inhabited α] [Inhabited β] {xs : List α} {g : α → β} {j : Nat} (h : j < xs.length) : gt (xs.map g) j = g (gt xs j) := by
  rw [qiF (by simpa using h), qiF h]; simp

theorem qlB {d : ql} {k : Int} (h : smallD d) : Ev (fun n => qfL n d k) (sinksL d k (places d).length) := by
  have hl := qcq h
  have hL : Ev (fun n => qbM k ((places d).map toSp) n ([] : List Int) 0) (sinksL d k (places d).length, ((places d).length : Int)) := by
    refine loopF (Lf := qbM k ((places d).map toSp)) (S := fun j => sinksL d k j) (len := (places d).length) (fun n => ?_) (fun j hj X hX => ?_)
    · simp only [qbM, List.length_map, qv (Nat.le_refl _), cond_false]
    · have hj' : j < ((places d).map toSp).length := by simpa using hj
      have hc : (sinksL d k j).length + [(j : Int)].length ≤ 2147483648 := by
        rw [qfm]
        have : cntP (snkQ d k) j ≤ j := qeR
        simp; omega
      simp only [qbM, qt hj', cond_true, qaq hj', qla hj, Option.bind_some, qq (show j < 9223372036854775807 by omega)]
      rw [show ∀ p : Tplace, (toSp p).net = p.net from fun _ => rfl, show ∀ p : Tplace, (toSp p).drives = p.drives from fun _ => rfl]
      refine Ev.bind (b := snkQ d k j) (Ev.andP fun _ => .done) ?_
      rw [qiM] at hX
      cases hq : snkQ d k j
      · rw [hq] at hX
        simp only [cond_false, List.append_nil] at hX ⊢
        exact hX
      · rw [hq] at hX
        simp only [cond_true, qdS hc, Option.bind_some] at hX ⊢
        exact hX
  unfold qfL
  exact Ev.bind (qhC h) (Ev.bind hL .done)

theorem qjq {l : qw} {d : ql} (h : designB l d = true) {i : Nat} (hi : i < (places d).length) : 0 ≤ (gt (places d) i).net ∧ (gt (places d) i).net < d.Nets.length := by
  unfold designB at h
  simp only [Bool.and_eq_true] at h
  obtain ⟨_, hI, hP, _⟩ := h
  rw [qhI, qa1] at hI hP
  have hm : gt (places d) i ∈ places d := by rw [qiF hi]; exact List.getElem_mem hi
  generalize gt (places d) i = p at hm
  unfold places at hm
  rcases List.mem_append.1 hm with hm | hm
  · unfold plI at hm
    obtain ⟨i, hi, hm⟩ := List.mem_flatMap.1 hm
    unfold plX at hm
    obtain ⟨k, hk, rfl⟩ := List.mem_map.1 hm
    have := hI i (List.mem_range.1 hi)
    unfold instB at this
    simp only [Bool.and_eq_true] at this
    have h3 := this.2.2
    rw [qgu (d := 0), qa1] at h3
    have h4 := h3 k (List.mem_range.1 hk)
    unfold netB at h4
    rw [qc5] at h4
    show 0 ≤ at0 _ _ ∧ at0 _ _ < _
    unfold at0
    omega
  · unfold plP at hm
    obtain ⟨i, hi, rfl⟩ := List.mem_map.1 hm
    have := hP i (List.mem_range.1 hi)
    unfold portB netB at this
    simp only [Bool.and_eq_true, qc5] at this
    show 0 ≤ (gt d.Ports i).Net ∧ (gt d.Ports i).Net < _
    omega

/-! ### Blocks -/

def blockB (b : qz) : Bool := (designB b.Library b.Design && ((b.Wires.length : Int) == (b.Design.Nets.length : Int))) && allN (fun j => wireB (gt b.Wires j) (snkN b.Design (j : Int))) b.Wires.length

theorem qmw {b : qz} (h : qfG b) : Ev (fun n => qhh n b) (blockB b) := by
  have hwl := h.Wires.len
  unfold qhh blockB
  refine Ev.guardB (Ev.or (qoq h.Library h.Design) fun _ => .done) fun hb => ?_
  rw [Bool.and_eq_true, beq_iff_eq] at hb
  obtain ⟨hd, hw⟩ := hb
  have hs := qa5 hd
  have hl := qcq hs
  have hn := hs.nn
  rw [qj9 (m := b.Wires.length) (by omega)]
  simp only [Option.bind_some]
  have hL1 : Ev (fun n => qca (places b.Design) n (vecC (fun _ => 0) b.Wires.length) 0) (vecC (fun k => snkN b.Design (k : Int)) b.Wires.length, ((places b.Design).length : Int)) := by
    refine loopF (Lf := qca (places b.Design)) (S := fun j => vecC (fun k => cntP (snkQ b.Design (k : Int)) j) b.Wires.length) (len := (places b.Design).length) (fun n => ?_) (fun j hj X hX => ?_)
    · simp only [qca, qv (Nat.le_refl _), cond_false]; rfl
    · simp only [qca, qt hj, cond_true, qaq hj, Option.bind_some, qq (show j < 9223372036854775807 by omega)]
      obtain ⟨n0, n1⟩ := qjq hd hj
      cases h1 : (gt (places b.Design) j).drives
      · have hc : cntP (snkQ b.Design (((gt (places b.Design) j).net.toNat : Nat) : Int)) j ≤ j := qeR
        obtain ⟨e1, e2⟩ := qjf (c := fun k => cntP (snkQ b.Design (k : Int)) j) (c' := fun k => cntP (snkQ b.Design (k : Int)) (j + 1)) (x := (gt (places b.Design) j).net) (m := b.Wires.length) n0 (by omega) (by show cntP _ _ < _; omega) (fun k _ => by
          show cntP _ j + (bif snkQ b.Design (k : Int) j then 1 else 0) = _
          unfold snkQ
          rw [h1, Bool.not_false, Bool.and_true])
        simp only [Bool.not_false, cond_true, Option.bind_some, e1, e2]
        exact hX
      · have : vecC (fun k => cntP (snkQ b.Design (k : Int)) (j + 1)) b.Wires.length = vecC (fun k => cntP (snkQ b.Design (k : Int)) j) b.Wires.length := by
          refine qiB (fun k _ => ?_)
          show cntP _ j + (bif snkQ b.Design (k : Int) j then 1 else 0) = _
          unfold snkQ
          rw [h1, Bool.not_true, Bool.and_false]; rfl
        rw [this] at hX
        exact hX
  have hL2 : Ev (fun n => qdl b (vecC (fun k => snkN b.Design (k : Int)) b.Wires.length) n 0) (bif allN (fun j => wireB (gt b.Wires j) (snkN b.Design (j : Int))) b.Wires.length then .nxt (b.Wires.length : Int) else .ret false) := by
    refine qe1 ?_ (fun j hj X hX => Ev.succ ?_)
    · exact Ev.succ (by simp only [qdl, qv (Nat.le_refl _), cond_false]; exact .done)
    · simp only [qdl, qt hj, cond_true, qaq hj, qiy hj, Option.bind_some, qq (show j < 9223372036854775807 by omega)]
      exact Ev.chk1 (qpR (qig h.Wires hj)) fun _ => hX
  refine Ev.bind (qka hs) (Ev.bind hL1 (Ev.bind hL2 ?_))
  cases allN (fun j => wireB (gt b.Wires j) (snkN b.Design (j : Int))) b.Wires.length <;> exact .done

theorem qjQ {b : qz} (h : qfG b) : Ev (fun n => qfv n b) (blockB b) := by
  have hwl := h.Wires.len
  unfold qfv blockB
  refine Ev.guardB (Ev.or (qkO h.Library h.Design) fun _ => .done) fun hb => ?_
  rw [Bool.and_eq_true] at hb
  have hs := qa5 hb.1
  have hL : Ev (fun n => qdc b n 0) (bif allN (fun j => wireB (gt b.Wires j) (snkN b.Design (j : Int))) b.Wires.length then .nxt (b.Wires.length : Int) else .ret false) := by
    refine qe1 ?_ (fun j hj X hX => Ev.succ ?_)
    · exact Ev.succ (by simp only [qdc, qv (Nat.le_refl _), cond_false]; exact .done)
    · simp only [qdc, qt hj, cond_true, qaq hj, Option.bind_some, qq (show j < 9223372036854775807 by omega)]
      refine Ev.bind (qlB hs) ?_
      rw [qfm]
      exact Ev.chk1 (qpn (qig h.Wires hj)) fun _ => hX
  refine Ev.bind hL ?_
  cases allN (fun j => wireB (gt b.Wires j) (snkN b.Design (j : Int))) b.Wires.length <;> exact .done
end Go.Fw
