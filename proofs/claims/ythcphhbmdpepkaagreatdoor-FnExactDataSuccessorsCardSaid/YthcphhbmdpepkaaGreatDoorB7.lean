/- By a program of mine (gen.py): for each function a plain function and the proof that the code computes it. -/
import Derived.Test.YthcphhbmdpepkaaGreatDoorA3
import Derived.Test.YthcphhbmdpepkaaGreatDoorFw33

namespace Go.Fw
open Go Go.Proofs
open Go.RowKit (Below)
set_option maxRecDepth 100000
def qgT (n : Nat) (t : qA) : Option Bool :=
 (qgl n t.Slews).bind fun r1 =>
 bif r1 then
  (qgl n t.Loads).bind fun r2 =>
  bif r2 then
   bif ((t.Values.length : Int) == (W64 ((t.Slews.length : Int) * (t.Loads.length : Int)))) then
    (qb9 n t.Values (-1000000) 1000000).bind fun r3 =>
    some r3
   else
    some false
  else
   some false
 else
  some false

theorem qk4 {n : Nat} {w : World} {t : qA} {cs1 : List Value} (ha1 : GoT.R w (old w) t cs1) {r : Bool} (hF : qgT n t = some r) : RetV Tryz.prog 212 [GoT.v qA cs1] w r := by
 obtain ⟨p1, k1, p2, k2, p3, k3, rfl, s1, s2, s3⟩ := qbf ha1
 refine qe Tryz.func212 rfl (m := 29) rfl rfl (fun h => ?_)
 rw [qgT] at hF
 refine zSR (qO h rfl rfl ?_)
 intro w1 bb1 h
 refine zp1 rfl (zNSR (zp1 rfl (zl 0 0 h rfl ?_)))
 obtain ⟨r1, hr1, hF⟩ := qd hF
 refine qq r1 h call221 (qi7 ⟨_, _, rfl, (h.oldS s1)⟩ hr1) rfl rfl rfl rfl ?_
 intro w2 h
 refine zp1 rfl ?_
 by_cases hc1 : r1 = true
 ·replace hF := bifT hc1 hF
  refine qE hc1 (t := 6) rfl (qa rfl (zp1 rfl (qa rfl (zl 0 1 h rfl (qa rfl ?_)))))
  obtain ⟨r2, hr2, hF⟩ := qd hF
  refine qq r2 h call221 (qi7 ⟨_, _, rfl, (h.oldS s2)⟩ hr2) rfl rfl rfl rfl ?_
  intro w3 h
  refine zp2 rfl ?_
  by_cases hc2 : r2 = true
  ·replace hF := bifT hc2 hF
   refine qE hc2 (t := 11) rfl (qa rfl (zp1 rfl (qa rfl (zl 0 2 h rfl (qa rfl (zp1 rfl (qa rfl (zp1 rfl (qa rfl (zl 0 0 h rfl (qa rfl ?_)))))))))))
   refine zp1 rfl (qa rfl (zp1 rfl (qa rfl (zl 0 1 h rfl (qa rfl (zp1 rfl (qa rfl (zp1 rfl (qa rfl (zp2 rfl ?_))))))))))
   refine zp1 rfl ?_
   by_cases hc3 : ((t.Values.length : Int) == (W64 ((t.Slews.length : Int) * (t.Loads.length : Int)))) = true
   ·replace hF := bifT hc3 hF
    refine qE hc3 (t := 24) rfl (qa rfl (zp1 rfl (qa rfl (zl 0 2 h rfl (qa rfl ?_)))))
    obtain ⟨r3, hr3, hF⟩ := qd hF
    refine qq r3 h call82 (qdo ⟨_, _, rfl, (h.oldS s3)⟩ hr3) rfl rfl rfl rfl ?_
    intro w4 h
    exact zp2 rfl (qb (qx qc h hF ⟨rfl, trivial⟩))
   replace hc3 := zb hc3
   replace hF := bifF hc3 hF
   exact qD hc3 (t := 24) rfl (zn3 rfl (zp2 rfl (qb (qx qc h hF ⟨rfl, trivial⟩))))
  replace hc2 := zb hc2
  replace hF := bifF hc2 hF
  refine qD hc2 (t := 11) rfl (zn5 rfl (zn5 rfl (zn1 rfl ?_)))
  exact zp2 rfl (zn3 rfl (zp2 rfl (qb (qx qc h hF ⟨rfl, trivial⟩))))
 replace hc1 := zb hc1
 replace hF := bifF hc1 hF
 refine qD hc1 (t := 6) rfl (zn3 rfl (zp2 rfl (zn5 rfl (zn1 rfl ?_))))
 refine zn5 rfl (zp2 rfl (zn3 rfl (zp2 rfl ?_)))
 exact qb (qx qc h hF ⟨rfl, trivial⟩)

def qbt (x : (List Int)) : Nat → Int → Int → Option (Int × Int)
 | 0, _, _ => none
 | n + 1, i1, i2 =>
  bif decide (i2 < (x.length : Int)) then
   (idx x i2).bind fun y2 =>
   qbt x n (if y2 < i1 then y2 else i1) (W64 (i2 + 1))
  else
   some (i1, i2)

def qeE (n : Nat) (x : (List Int)) : Option Int :=
 (
  bif decide ((x.length : Int) < 1) then
   none
  else
   some ()).bind fun _ =>
 (idx x 0).bind fun y1 =>
 (qbt x n y1 1).bind fun o => match o with
 | (i1, _) =>
  some i1

theorem qjw {n : Nat} {w : World} {x : (List Int)} {cs1 : List Value} (ha1 : GoT.R w (old w) x cs1) {r : Int} (hF : qeE n x = some r) : RetV Tryz.prog 213 [GoT.v (List Int) cs1] w r := by
 obtain ⟨p1, k1, rfl, s1⟩ := ha1
 refine qe Tryz.func213 rfl (m := 25) rfl rfl (fun h => ?_)
 rw [qeE] at hF
 refine zSR (zp1 rfl (zNSSR (zp3 rfl (qb ?_))))
 obtain ⟨KF1, hKF1, o2, hF, hK2⟩ := bindE hF
 refine qen (fun e w' => KF1 () = some r ∧ e = [(0, .slice p1 x.length k1)] ∧ SH w w' []) ?_ ?_
 ·refine qt rfl hF ?_ ?_ <;> intro hF
  ·refine qB ?_
   cases hF
  refine qel ?_
  obtain rfl := qh hF
  exact qy [(0, _)] ⟨rfl, trivial⟩ ⟨hK2, rfl, h⟩
 rintro e2 w2 ⟨hF, rfl, h⟩
 subst hKF1
 refine zSR (zp1 rfl ?_)
 obtain ⟨y1, hy1, hF⟩ := qd hF
 have he1 := qf hy1
 obtain ⟨b1, o_1, q1, cs2, hp1, hq1, -, hr1, hc1⟩ := s1.at hy1
 obtain rfl := hr1
 refine zxe hp1 hq1 he1 rfl (zc 0 (hc1.below h.below) rfl (zp1 rfl (zNSSR (zp1 rfl (qb ?_)))))
 obtain ⟨o1, hF, hK1⟩ := qd hF
 refine qw (qS [(0, _), (3, _), (4, _)] ⟨rfl, rfl, rfl, trivial⟩ ?_)
 refine qF (fun m e w' => ∃ (i1 : Int) (i2 : Int), qbt x m i1 i2 = some o1 ∧ e = [(0, .slice p1 x.length k1), (3, .int .i64 i1), (4, .int .i64 i2)] ∧ SH w w' []) n ⟨_, _, hF, rfl, h⟩ ?_
 rintro m1 e1 w1 ⟨i1, i2, hF, rfl, h⟩
 rcases m1 with _ | m1
 ·rw [qbt] at hF
  cases hF
 rw [qbt] at hF
 refine zSSR (zp4 rfl (qb ?_))
 refine qt rfl hF ?_ ?_ <;> intro hF
 ·refine zKSBR (zp3 rfl ?_)
  obtain ⟨y2, hy2, hF⟩ := qd hF
  have he2 := qf hy2
  obtain ⟨b2, o_2, q2, cs3, hp2, hq2, -, hr2, hc3⟩ := s1.at hy2
  obtain rfl := hr2
  exact zxe hp2 hq2 he2 rfl (zc 0 (hc3.below h.below) rfl (zp2 rfl (zNER (zp3 rfl (qb (qz m1 [(0, _), (3, _), (4, _)] (Nat.lt_succ_self m1) ⟨rfl, rfl, rfl, trivial⟩ ⟨_, _, hF, rfl, h⟩))))))
 refine qG rfl ?_
 obtain rfl := qh hF; replace hF := hK1
 exact zSR (zp2 rfl (qb (qaP qc h hF ⟨rfl, trivial⟩)))

def qeF (n : Nat) (t : qA) (v0 : Bool) : Option Bool :=
 (qgT n t).bind fun r1 =>
 bif (!r1) then
  some true
 else
  bif v0 then
   (qeE n t.Values).bind fun r2 =>
   some (decide (r2 < 0))
  else
   some false

theorem qjz {n : Nat} {w : World} {t : qA} {v0 : Bool} {cs1 : List Value} (ha1 : GoT.R w (old w) t cs1) {p4 : Option Addr} (ha2 : GoT.R w (old w) (some v0) [.pointer p4]) {r : Bool} (hF : qeF n t v0 = some r) : RetV Tryz.prog 211 [GoT.v qA cs1, .pointer p4] w r := by
 obtain ⟨p1, k1, p2, k2, p3, k3, rfl, s1, s2, s3⟩ := qbf ha1
 obtain ⟨b1, o_1, cs2, rfl, -, hr1, hc1⟩ := PtR.get ha2 rfl
 obtain rfl := hr1
 refine qe Tryz.func211 rfl (m := 16) rfl rfl (fun h => ?_)
 rw [qeF] at hF
 refine zSR (qO h rfl rfl ?_)
 intro w1 bb1 h
 refine zp1 rfl (zNSR (zl 0 0 h rfl ?_))
 obtain ⟨r1, hr2, hF⟩ := qd hF
 refine qq r1 h call212 (qk4 (h.old ha1) hr2) rfl rfl rfl rfl ?_
 intro w2 h
 refine zp2 rfl ?_
 by_cases hc2 : (!r1) = true
 ·replace hF := bifT hc2 hF
  exact qE hc2 (t := 7) rfl (zn5 rfl (zn2 rfl (zp2 rfl (qb (qx qc h hF ⟨rfl, trivial⟩)))))
 replace hc2 := zb hc2
 replace hF := bifF hc2 hF
 refine qD hc2 (t := 7) rfl (qa rfl (zc 0 (hc1.below h.below) rfl (qa rfl (zp1 rfl ?_))))
 by_cases hc3 : v0 = true
 ·replace hF := bifT hc3 hF
  refine qE hc3 (t := 9) rfl (qa rfl (zp1 rfl (qa rfl (zl 0 2 h rfl (qa rfl ?_)))))
  obtain ⟨r2, hr3, hF⟩ := qd hF
  refine qY r2 h call213 (qjw ⟨_, _, rfl, (h.oldS s3)⟩ hr3) rfl rfl rfl rfl ?_
  intro w3 h
  exact qa rfl (zp1 rfl (qa rfl (zp3 rfl (qb (qx qc h hF ⟨rfl, trivial⟩)))))
 replace hc3 := zb hc3
 replace hF := bifF hc3 hF
 exact qD hc3 (t := 9) rfl (zn4 rfl (qa rfl (zp3 rfl (qb (qx qc h hF ⟨rfl, trivial⟩)))))

def qK (s : (List qA)) (f_0 : Bool) : Nat → Int → Option (Flow Int Int)
 | 0, _ => none
 | n + 1, i1 =>
  bif decide (i1 < (s.length : Int)) then
   (idx s i1).bind fun y1 =>
   (qeF n y1 f_0).bind fun r1 =>
   bif r1 then
    some (.ret i1)
   else
    qK s f_0 n (W64 (i1 + 1))
  else
   some (.nxt i1)

def qah (n : Nat) (s : (List qA)) (f_0 : Bool) : Option Int :=
 (qK s f_0 n 0).bind fun o => match o with
 | .ret r => some r
 | .nxt _ =>
  some (-1)

theorem qeb {n : Nat} {w : World} {s : (List qA)} {f_0 : Bool} {cs1 : List Value} (ha1 : GoT.R w (old w) s cs1) {p2 : Option Addr} (ha2 : GoT.R w (old w) (some f_0) [.pointer p2]) {r : Int} (hF : qah n s f_0 = some r) : RetV Tryz.prog 220 [GoT.v (List qA) cs1, .func (.func 211) #[] #[.pointer p2]] w r := by
 obtain ⟨p1, k1, rfl, s1⟩ := ha1
 obtain ⟨b1, o_1, cs2, rfl, -, hr1, hc1⟩ := PtR.get ha2 rfl
 obtain rfl := hr1
 refine qe Tryz.func220 rfl (m := 19) rfl rfl (fun h => ?_)
 rw [qah] at hF
 refine zSR (zp1 rfl (zNSSR (zp3 rfl (qb ?_))))
 obtain ⟨o1, hF, hK1⟩ := qd hF
 refine qw (qS [(0, _), (1, _), (7, _), (8, _)] ⟨rfl, rfl, rfl, rfl, trivial⟩ ?_)
 refine qF (fun m e w' => ∃ (i1 : Int), qK s f_0 m i1 = some o1 ∧ e = [(0, .slice p1 s.length k1), (1, .func (.func 211) #[] #[.pointer (some ⟨b1, o_1, none⟩)]), (7, .int .i64 (s.length : Int)), (8, .int .i64 i1)] ∧ SH w w' []) n ⟨_, hF, rfl, h⟩ ?_
 rintro m1 e1 w1 ⟨i1, hF, rfl, h⟩
 rcases m1 with _ | m1
 ·rw [qK] at hF
  cases hF
 rw [qK] at hF
 refine zSR (zp1 rfl (zNS ?_))
 refine qt rfl hF ?_ ?_ <;> intro hF
 ·refine zKSBSR (zp2 rfl (zNSR (zp2 rfl ?_)))
  refine zp1 rfl ?_
  obtain ⟨y1, hy1, hF⟩ := qd hF
  have he1 := qf hy1
  obtain ⟨b2, o_2, q1, cs3, hp1, hq1, -, hr2, hc3⟩ := s1.at hy1
  obtain ⟨p3, k2, p4, k3, p5, k4, rfl, s2, s3, s4⟩ := qbf hr2
  refine zxe hp1 hq1 he1 rfl (zc 0 (hc3.below h.below) rfl ?_)
  obtain ⟨r1, hr3, hF⟩ := qd hF
  refine qq r1 h call211 (qjz (qg4 y1 (h.oldS s2) (h.oldS s3) (h.oldS s4)) (h.old ha2) hr3) rfl rfl rfl rfl ?_
  intro w2 h
  refine qb ?_
  refine qt rfl hF ?_ ?_ <;> intro hF
  ·refine zSR (zp2 rfl (qb ?_))
   obtain rfl := qh hF; replace hF := hK1
   exact qaP qc h hF ⟨rfl, trivial⟩
  exact zKER (zp2 rfl (qb (qz m1 [(0, _), (1, _), (7, _), (8, _)] (Nat.lt_succ_self m1) ⟨rfl, rfl, rfl, rfl, trivial⟩ ⟨_, hF, rfl, h⟩)))
 refine qG rfl ?_
 obtain rfl := qh hF; replace hF := hK1
 exact zSR (zp1 rfl (qb (qaP qc h hF ⟨rfl, trivial⟩)))

def qas (n : Nat) (s : (List qA)) (f_0 : Bool) : Option Bool :=
 (qah n s f_0).bind fun r1 =>
 some (decide (r1 ≥ 0))

theorem qdL {n : Nat} {w : World} {s : (List qA)} {f_0 : Bool} {cs1 : List Value} (ha1 : GoT.R w (old w) s cs1) {p2 : Option Addr} (ha2 : GoT.R w (old w) (some f_0) [.pointer p2]) {r : Bool} (hF : qas n s f_0 = some r) : RetV Tryz.prog 210 [GoT.v (List qA) cs1, .func (.func 211) #[] #[.pointer p2]] w r := by
 obtain ⟨p1, k1, rfl, s1⟩ := ha1
 obtain ⟨b1, o_1, cs2, rfl, -, hr1, hc1⟩ := PtR.get ha2 rfl
 obtain rfl := hr1
 refine qe Tryz.func210 rfl (m := 9) rfl rfl (fun h => ?_)
 rw [qas] at hF
 refine zSR (zp1 rfl (zNSR (zp2 rfl ?_)))
 obtain ⟨r1, hr2, hF⟩ := qd hF
 refine qY r1 h call220 (qeb ⟨_, _, rfl, (h.oldS s1)⟩ (h.old ha2) hr2) rfl rfl rfl rfl ?_
 intro w1 h
 exact zp2 rfl (qb (qx qc h hF ⟨rfl, trivial⟩))

def qdR (n : Nat) (list : (List qA)) (positive : Bool) : Option Bool :=
 bif ((list.length : Int) == 2) then
  (qas n list positive).bind fun r1 =>
  some (!r1)
 else
  some false

theorem qgN {n : Nat} {w : World} {list : (List qA)} {positive : Bool} {cs1 : List Value} (ha1 : GoT.R w (old w) list cs1) {r : Bool} (hF : qdR n list positive = some r) : RetV Tryz.prog 199 [GoT.v (List qA) cs1, .bool positive] w r := by
 obtain ⟨p1, k1, rfl, s1⟩ := ha1
 refine qe Tryz.func199 rfl (m := 14) rfl rfl (fun h => ?_)
 rw [qdR] at hF
 refine zSR (qO h rfl rfl ?_)
 intro w1 bb1 h
 refine zp1 rfl (zNSR (zp4 rfl ?_))
 by_cases hc1 : ((list.length : Int) == 2) = true
 ·replace hF := bifT hc1 hF
  refine qE hc1 (t := 8) rfl (qa rfl (zp1 rfl (qa rfl (zp1 rfl (qa rfl ?_)))))
  obtain ⟨r1, hr1, hF⟩ := qd hF
  refine qq r1 h call210 (qdL ⟨_, _, rfl, (h.oldS s1)⟩ (qhQ (x := positive) 0 h rfl rfl) hr1) rfl rfl rfl rfl ?_
  intro w2 h
  exact qa rfl (zp3 rfl (qb (qx qc h hF ⟨rfl, trivial⟩)))
 replace hc1 := zb hc1
 replace hF := bifF hc1 hF
 exact qD hc1 (t := 8) rfl (zn4 rfl (zp2 rfl (qb (qx qc h hF ⟨rfl, trivial⟩))))

def qfa (_ : Nat) (p : qae) : Option Bool :=
 some p.Clock

theorem qjh {n : Nat} {w : World} {p : qae} {cs1 : List Value} (ha1 : GoT.R w (old w) p cs1) {r : Bool} (hF : qfa n p = some r) : RetV Tryz.prog 215 [GoT.v qae cs1] w r := by
 obtain rfl := qaO ha1
 refine qe Tryz.func215 rfl (m := 5) rfl rfl (fun h => ?_)
 rw [qfa] at hF
 refine zSR (qO h rfl rfl ?_)
 intro w1 bb1 h
 exact zp1 rfl (zNSR (zp1 rfl (zl 0 3 h rfl (zp1 rfl (qb (qx qc h hF ⟨rfl, trivial⟩))))))

def qL (s : (List qae)) : Nat → Int → Option (Flow Int Int)
 | 0, _ => none
 | n + 1, i1 =>
  bif decide (i1 < (s.length : Int)) then
   (idx s i1).bind fun y1 =>
   (qfa n y1).bind fun r1 =>
   bif r1 then
    some (.ret i1)
   else
    qL s n (W64 (i1 + 1))
  else
   some (.nxt i1)

def qaH (n : Nat) (s : (List qae)) : Option Int :=
 (qL s n 0).bind fun o => match o with
 | .ret r => some r
 | .nxt _ =>
  some (-1)

theorem qej {n : Nat} {w : World} {s : (List qae)} {cs1 : List Value} (ha1 : GoT.R w (old w) s cs1) {r : Int} (hF : qaH n s = some r) : RetV Tryz.prog 214 [GoT.v (List qae) cs1, .func (.func 215) #[] #[]] w r := by
 obtain ⟨p1, k1, rfl, s1⟩ := ha1
 refine qe Tryz.func214 rfl (m := 19) rfl rfl (fun h => ?_)
 rw [qaH] at hF
 refine zSR (zp1 rfl (zNSSR (zp3 rfl (qb ?_))))
 obtain ⟨o1, hF, hK1⟩ := qd hF
 refine qw (qS [(0, _), (1, _), (7, _), (8, _)] ⟨rfl, rfl, rfl, rfl, trivial⟩ ?_)
 refine qF (fun m e w' => ∃ (i1 : Int), qL s m i1 = some o1 ∧ e = [(0, .slice p1 s.length k1), (1, .func (.func 215) #[] #[]), (7, .int .i64 (s.length : Int)), (8, .int .i64 i1)] ∧ SH w w' []) n ⟨_, hF, rfl, h⟩ ?_
 rintro m1 e1 w1 ⟨i1, hF, rfl, h⟩
 rcases m1 with _ | m1
 ·rw [qL] at hF
  cases hF
 rw [qL] at hF
 refine zSR (zp1 rfl (zNS ?_))
 refine qt rfl hF ?_ ?_ <;> intro hF
 ·refine zKSBSR (zp2 rfl (zNSR (zp2 rfl ?_)))
  refine zp1 rfl ?_
  obtain ⟨y1, hy1, hF⟩ := qd hF
  have he1 := qf hy1
  obtain ⟨b1, o_1, q1, cs2, hp1, hq1, -, hr1, hc2⟩ := s1.at hy1
  obtain rfl := qaO hr1
  refine zxe hp1 hq1 he1 rfl (zc 0 (hc2.below h.below) rfl ?_)
  obtain ⟨r1, hr2, hF⟩ := qd hF
  refine qq r1 h call215 (qjh (qdz y1) hr2) rfl rfl rfl rfl ?_
  intro w2 h
  refine qb ?_
  refine qt rfl hF ?_ ?_ <;> intro hF
  ·refine zSR (zp2 rfl (qb ?_))
   obtain rfl := qh hF; replace hF := hK1
   exact qaP qc h hF ⟨rfl, trivial⟩
  exact zKER (zp2 rfl (qb (qz m1 [(0, _), (1, _), (7, _), (8, _)] (Nat.lt_succ_self m1) ⟨rfl, rfl, rfl, rfl, trivial⟩ ⟨_, hF, rfl, h⟩)))
 refine qG rfl ?_
 obtain rfl := qh hF; replace hF := hK1
 exact zSR (zp1 rfl (qb (qaP qc h hF ⟨rfl, trivial⟩)))

def qeZ (n : Nat) (c : qv) : Option Int :=
 (qaH n c.Pins).bind fun r1 =>
 some r1

theorem qjN {n : Nat} {w : World} {c : qv} {cs1 : List Value} (ha1 : GoT.R w (old w) c cs1) {r : Int} (hF : qeZ n c = some r) : RetV Tryz.prog 200 [GoT.v qv cs1] w r := by
 obtain ⟨p1, k1, p2, k2, p3, k3, rfl, s1, s2, s3⟩ := qU ha1
 refine qe Tryz.func200 rfl (m := 6) rfl rfl (fun h => ?_)
 rw [qeZ] at hF
 refine zSR (qO h rfl rfl ?_)
 intro w1 bb1 h
 refine zp1 rfl (zNSR (zp1 rfl (zl 0 2 h rfl ?_)))
 obtain ⟨r1, hr1, hF⟩ := qd hF
 refine qY r1 h call214 (qej ⟨_, _, rfl, (h.oldS s1)⟩ hr1) rfl rfl rfl rfl ?_
 intro w2 h
 exact zp1 rfl (qb (qaP qc h hF ⟨rfl, trivial⟩))

def qef (n : Nat) (c : qv) (pin : Int) : Option Bool :=
 (qbQ n c).bind fun r1 =>
 (qa9 n pin 0 (W64 (r1 - 1))).bind fun r2 =>
 some r2

theorem qhi {n : Nat} {w : World} {c : qv} {pin : Int} {cs1 : List Value} (ha1 : GoT.R w (old w) c cs1) {r : Bool} (hF : qef n c pin = some r) : RetV Tryz.prog 201 [GoT.v qv cs1, .int .i64 pin] w r := by
 obtain ⟨p1, k1, p2, k2, p3, k3, rfl, s1, s2, s3⟩ := qU ha1
 refine qe Tryz.func201 rfl (m := 10) rfl rfl (fun h => ?_)
 rw [qef] at hF
 refine zSR (qO h rfl rfl ?_)
 intro w1 bb1 h
 refine zp1 rfl (zNSR (zp1 rfl (zl 0 0 h rfl ?_)))
 obtain ⟨r1, hr1, hF⟩ := qd hF
 refine qY r1 h call106 (qer (h.old ha1) hr1) rfl rfl rfl rfl ?_
 intro w2 h
 refine zp1 rfl ?_
 obtain ⟨r2, hr2, hF⟩ := qd hF
 refine qq r2 h call100 (qaR hr2) rfl rfl rfl rfl ?_
 intro w3 h
 exact zp1 rfl (qb (qx qc h hF ⟨rfl, trivial⟩))

def qe0 (n : Nat) (a_0 : qv) (a_1 : qT) : Option Bool :=
 (qgC n a_1.Kind).bind fun r1 =>
 bif r1 then
  (
   bif (a_1.Sense == 0) then
    bif ((a_1.Slew.length : Int) == 0) then
     (qdR n a_1.Delay false).bind fun r2 =>
     bif r2 then
      (qeZ n a_0).bind fun r3 =>
      bif (a_1.From == r3) then
       bif decide (a_1.From ≥ 0) then
        (qef n a_0 a_1.To).bind fun r4 =>
        bif r4 then
         some (a_1.To != a_1.From)
        else
         some false
       else
        some false
      else
       some false
     else
      some false
    else
     some false
   else
    some false).bind fun b1 =>
  some b1
 else
  (
   (qdR n a_1.Delay true).bind fun r6 =>
   bif (!r6) then
    some true
   else
    (qdR n a_1.Slew true).bind fun r7 =>
    bif (!r7) then
     some true
    else
     (qbQ n a_0).bind fun r8 =>
     bif (a_1.To != r8) then
      some true
     else
      (qef n a_0 a_1.From).bind fun r9 =>
      some (!r9)).bind fun b2 =>
  bif b2 then
   some false
  else
   bif (a_1.Kind == 1) then
    (idx a_0.Pins a_1.From).bind fun y1 =>
    bif (!y1.Clock) then
     (qa9 n a_1.Sense 1 3).bind fun r5 =>
     some r5
    else
     some false
   else
    (
     bif (a_1.Kind == 2) then
      some (a_1.Kind == 2)
     else
      some (a_1.Kind == 3)).bind fun b4 =>
    bif b4 then
     (idx a_0.Pins a_1.From).bind fun y2 =>
     bif y2.Clock then
      some (a_1.Sense == 0)
     else
      some false
    else
     some false

theorem qjM {n : Nat} {w : World} {a_0 : qv} {a_1 : qT} {cs1 : List Value} (ha1 : GoT.R w (old w) a_0 cs1) {cs2 : List Value} (ha2 : GoT.R w (old w) a_1 cs2) {r : Bool} (hF : qe0 n a_0 a_1 = some r) : RetV Tryz.prog 182 [GoT.v qv cs1, GoT.v qT cs2] w r := by
 obtain ⟨p1, k1, p2, k2, p3, k3, rfl, s1, s2, s3⟩ := qU ha1
 obtain ⟨p4, k4, p5, k5, rfl, s4, s5⟩ := qan ha2
 refine qe Tryz.func182 rfl (m := 103) rfl rfl (fun h => ?_)
 rw [qe0] at hF
 refine zSR (qO h rfl rfl ?_)
 intro w1 bb1 h
 refine qO h rfl rfl ?_
 intro w2 bb2 h
 refine zp1 rfl (zNSSR (zp1 rfl (zl 0 0 h rfl ?_)))
 obtain ⟨r1, hr1, hF⟩ := qd hF
 refine qq r1 h call198 (qkZ hr1) rfl rfl rfl rfl ?_
 intro w3 h
 refine qb ?_
 refine qt rfl hF ?_ ?_ <;> intro hF
 ·refine qbg ?_
  obtain ⟨KF1, hKF1, o1, hF, hK1⟩ := bindE hF
  refine qen (fun e w' => ∃ (b1 : Bool), KF1 b1 = some r ∧ e = [(4, .bool b1)] ∧ SH w w' []) ?_ ?_
  ·refine qcY rfl (by kernel_rfl) ?_
   refine zd1 rfl ?_
   refine zdl 0 3 h rfl ?_
   refine zd2 rfl ?_
   by_cases hc2 : (a_1.Sense == 0) = true
   ·replace hF := bifT hc2 hF
    refine qde hc2 (t := 11) rfl (qi rfl (zd1 rfl (qi rfl ?_)))
    refine zdl 0 5 h rfl ?_
    refine qi rfl (zd1 rfl (qi rfl (zd3 rfl ?_)))
    by_cases hc3 : ((a_1.Slew.length : Int) == 0) = true
    ·replace hF := bifT hc3 hF
     refine qde hc3 (t := 17) rfl (qi rfl (zd1 rfl (qi rfl ?_)))
     refine zdl 0 4 h rfl ?_
     refine qi rfl ?_
     obtain ⟨r2, hr2, hF⟩ := qd hF
     refine qdc r2 (vsB _) call199 (fun _ hb => qgN ⟨_, _, rfl, ((h.ext hb).oldS s4)⟩ hr2) rfl rfl rfl rfl ?_
     refine zd2 rfl ?_
     by_cases hc4 : r2 = true
     ·replace hF := bifT hc4 hF
      refine qde hc4 (t := 22) rfl (qi rfl (zd1 rfl (qi rfl ?_)))
      refine zdl 0 1 h rfl ?_
      refine qi rfl ?_
      refine zdl 1 0 h rfl ?_
      refine qi rfl ?_
      obtain ⟨r3, hr3, hF⟩ := qd hF
      refine qdc r3 (vsI _) call200 (fun _ hb => qjN ((h.ext hb).old ha1) hr3) rfl rfl rfl rfl ?_
      refine qi rfl (zd3 rfl ?_)
      by_cases hc5 : (a_1.From == r3) = true
      ·replace hF := bifT hc5 hF
       refine qde hc5 (t := 29) rfl (qi rfl (zd1 rfl (qi rfl ?_)))
       refine zdl 0 1 h rfl ?_
       refine qi rfl (zd3 rfl ?_)
       by_cases hc6 : (decide (a_1.From ≥ 0)) = true
       ·replace hF := bifT hc6 hF
        refine qde hc6 (t := 34) rfl (qi rfl ?_)
        refine zdl 1 0 h rfl ?_
        refine qi rfl (zd1 rfl (qi rfl ?_))
        refine zdl 0 2 h rfl ?_
        refine qi rfl ?_
        obtain ⟨r4, hr4, hF⟩ := qd hF
        refine qdc r4 (vsB _) call201 (fun _ hb => qhi ((h.ext hb).old ha1) hr4) rfl rfl rfl rfl ?_
        refine zd2 rfl ?_
        by_cases hc7 : r4 = true
        ·replace hF := bifT hc7 hF
         refine qde hc7 (t := 40) rfl (qi rfl (zd1 rfl (qi rfl ?_)))
         refine zdl 0 2 h rfl ?_
         refine qi rfl (zd1 rfl (qi rfl ?_))
         refine zdl 0 1 h rfl ?_
         refine qi rfl (zd3 rfl ?_)
         refine qbe (fun w4 hb => ?_)
         replace h := h.ext hb
         clear hb
         replace h := h.pick [] rfl
         obtain rfl := qh hF
         exact qy [(4, _)] ⟨rfl, trivial⟩ ⟨_, hK1, rfl, h⟩
        replace hc7 := zb hc7
        replace hF := bifF hc7 hF
        refine qdk hc7 (t := 40) rfl (qj rfl rfl rfl (qj rfl rfl rfl (qj rfl rfl rfl (qj rfl rfl rfl (qj rfl rfl rfl (zd2 rfl ?_))))))
        refine qbe (fun w5 hb => ?_)
        replace h := h.ext hb
        clear hb
        replace h := h.pick [] rfl
        obtain rfl := qh hF
        exact qy [(4, _)] ⟨rfl, trivial⟩ ⟨_, hK1, rfl, h⟩
       replace hc6 := zb hc6
       replace hF := bifF hc6 hF
       refine qdk hc6 (t := 34) rfl (qj rfl rfl rfl (qj rfl rfl rfl (qj rfl rfl rfl (qj rfl rfl rfl (zd2 rfl (qj rfl rfl rfl (qj rfl rfl rfl (qj rfl rfl rfl (qj rfl rfl rfl (qj rfl rfl rfl ?_))))))))))
       refine zd2 rfl ?_
       refine qbe (fun w6 hb => ?_)
       replace h := h.ext hb
       clear hb
       replace h := h.pick [] rfl
       obtain rfl := qh hF
       exact qy [(4, _)] ⟨rfl, trivial⟩ ⟨_, hK1, rfl, h⟩
      replace hc5 := zb hc5
      replace hF := bifF hc5 hF
      refine qdk hc5 (t := 29) rfl (qj rfl rfl rfl (qj rfl rfl rfl (qj rfl rfl rfl (zd2 rfl (qj rfl rfl rfl (qj rfl rfl rfl (qj rfl rfl rfl (qj rfl rfl rfl (zd2 rfl ?_)))))))))
      refine qj rfl rfl rfl (qj rfl rfl rfl (qj rfl rfl rfl (qj rfl rfl rfl (qj rfl rfl rfl (zd2 rfl ?_)))))
      refine qbe (fun w7 hb => ?_)
      replace h := h.ext hb
      clear hb
      replace h := h.pick [] rfl
      obtain rfl := qh hF
      exact qy [(4, _)] ⟨rfl, trivial⟩ ⟨_, hK1, rfl, h⟩
     replace hc4 := zb hc4
     replace hF := bifF hc4 hF
     refine qdk hc4 (t := 22) rfl (qj rfl rfl rfl (qj rfl rfl rfl (qj rfl rfl rfl (qj rfl rfl rfl (qj rfl rfl rfl (zd2 rfl (qj rfl rfl rfl (qj rfl rfl rfl (qj rfl rfl rfl (zd1 rfl ?_))))))))))
     refine zd1 rfl (qj rfl rfl rfl (qj rfl rfl rfl (qj rfl rfl rfl (qj rfl rfl rfl (zd2 rfl (qj rfl rfl rfl (qj rfl rfl rfl (qj rfl rfl rfl (qj rfl rfl rfl (qj rfl rfl rfl ?_))))))))))
     refine zd2 rfl ?_
     refine qbe (fun w8 hb => ?_)
     replace h := h.ext hb
     clear hb
     replace h := h.pick [] rfl
     obtain rfl := qh hF
     exact qy [(4, _)] ⟨rfl, trivial⟩ ⟨_, hK1, rfl, h⟩
    replace hc3 := zb hc3
    replace hF := bifF hc3 hF
    refine qdk hc3 (t := 17) rfl (qj rfl rfl rfl (qj rfl rfl rfl (qj rfl rfl rfl (zd2 rfl (qj rfl rfl rfl (qj rfl rfl rfl (qj rfl rfl rfl (qj rfl rfl rfl (qj rfl rfl rfl (zd1 rfl ?_))))))))))
    refine zd1 rfl (qj rfl rfl rfl (qj rfl rfl rfl (qj rfl rfl rfl (zd2 rfl (qj rfl rfl rfl (qj rfl rfl rfl (qj rfl rfl rfl (qj rfl rfl rfl (zd2 rfl ?_)))))))))
    refine qj rfl rfl rfl (qj rfl rfl rfl (qj rfl rfl rfl (qj rfl rfl rfl (qj rfl rfl rfl (zd2 rfl ?_)))))
    refine qbe (fun w9 hb => ?_)
    replace h := h.ext hb
    clear hb
    replace h := h.pick [] rfl
    obtain rfl := qh hF
    exact qy [(4, _)] ⟨rfl, trivial⟩ ⟨_, hK1, rfl, h⟩
   replace hc2 := zb hc2
   replace hF := bifF hc2 hF
   refine qdk hc2 (t := 11) rfl (qj rfl rfl rfl (qj rfl rfl rfl (qj rfl rfl rfl (qj rfl rfl rfl (zd2 rfl (qj rfl rfl rfl (qj rfl rfl rfl (qj rfl rfl rfl (zd2 rfl ?_)))))))))
   refine qj rfl rfl rfl (qj rfl rfl rfl (qj rfl rfl rfl (qj rfl rfl rfl (qj rfl rfl rfl (zd2 rfl (qj rfl rfl rfl (qj rfl rfl rfl (qj rfl rfl rfl (zd2 rfl ?_)))))))))
   refine qj rfl rfl rfl (qj rfl rfl rfl (qj rfl rfl rfl (qj rfl rfl rfl (zd2 rfl (qj rfl rfl rfl (qj rfl rfl rfl (qj rfl rfl rfl (qj rfl rfl rfl (qj rfl rfl rfl (zd1 rfl ?_))))))))))
   refine zd1 rfl ?_
   refine qbe (fun w10 hb => ?_)
   replace h := h.ext hb
   clear hb
   replace h := h.pick [] rfl
   obtain rfl := qh hF
   exact qy [(4, _)] ⟨rfl, trivial⟩ ⟨_, hK1, rfl, h⟩
  rintro e1 w11 ⟨b1, hF, rfl, h⟩
  subst hKF1
  exact qx qc h hF ⟨rfl, trivial⟩
 refine zKSS ?_
 obtain ⟨KF3, hKF3, o3, hF, hK3⟩ := bindE hF
 refine qen (fun e w' => ∃ (b2 : Bool), KF3 b2 = some r ∧ e = [(2, .pointer (some ⟨bb1, 0, none⟩)), (3, .pointer (some ⟨bb2, 0, none⟩)), (70, .bool b2)] ∧ SH w w' [Ch.box bb2 [.int .i64 a_1.Kind, .int .i64 a_1.From, .int .i64 a_1.To, .int .i64 a_1.Sense, .slice p4 a_1.Delay.length k4, .slice p5 a_1.Slew.length k5] 159, Ch.box bb1 [.string a_0.Name, .int .i64 a_0.Kind, .slice p1 a_0.Pins.length k1, .slice p2 a_0.Arcs.length k2, .slice p3 a_0.Truth.length k3, .int .i64 a_0.Leak, .int .i64 a_0.Energy] 155]) ?_ ?_
 ·refine qcY rfl (by kernel_rfl) ?_
  refine zd1 rfl ?_
  refine zdl 0 4 h rfl ?_
  obtain ⟨r6, hr8, hF⟩ := qd hF
  refine qdc r6 (vsB _) call199 (fun _ hb => qgN ⟨_, _, rfl, ((h.ext hb).oldS s4)⟩ hr8) rfl rfl rfl rfl ?_
  refine zd2 rfl ?_
  by_cases hc16 : (!r6) = true
  ·replace hF := bifT hc16 hF
   refine qde hc16 (t := 51) rfl (qj rfl rfl rfl (qj rfl rfl rfl (qj rfl rfl rfl (qj rfl rfl rfl (zd2 rfl (qj rfl rfl rfl (qj rfl rfl rfl (qj rfl rfl rfl (qj rfl rfl rfl (qj rfl rfl rfl ?_))))))))))
   refine zd2 rfl (qj rfl rfl rfl (qj rfl rfl rfl (qj rfl rfl rfl (qj rfl rfl rfl (qj rfl rfl rfl (zd1 rfl ?_))))))
   refine qbe (fun w14 hb => ?_)
   replace h := h.ext hb
   clear hb
   obtain rfl := qh hF
   exact qy [(2, _), (3, _), (70, _)] ⟨rfl, rfl, rfl, trivial⟩ ⟨_, hK3, rfl, h⟩
  replace hc16 := zb hc16
  replace hF := bifF hc16 hF
  refine qdk hc16 (t := 51) rfl (qi rfl (zd1 rfl (qi rfl ?_)))
  refine zdl 0 5 h rfl ?_
  refine qi rfl ?_
  obtain ⟨r7, hr9, hF⟩ := qd hF
  refine qdc r7 (vsB _) call199 (fun _ hb => qgN ⟨_, _, rfl, ((h.ext hb).oldS s5)⟩ hr9) rfl rfl rfl rfl ?_
  refine qi rfl (zd3 rfl ?_)
  by_cases hc17 : (!r7) = true
  ·replace hF := bifT hc17 hF
   refine qde hc17 (t := 57) rfl (qj rfl rfl rfl (qj rfl rfl rfl (qj rfl rfl rfl (qj rfl rfl rfl (qj rfl rfl rfl (zd2 rfl (qj rfl rfl rfl (qj rfl rfl rfl (qj rfl rfl rfl (qj rfl rfl rfl ?_))))))))))
   refine qj rfl rfl rfl (zd1 rfl ?_)
   refine qbe (fun w15 hb => ?_)
   replace h := h.ext hb
   clear hb
   obtain rfl := qh hF
   exact qy [(2, _), (3, _), (70, _)] ⟨rfl, rfl, rfl, trivial⟩ ⟨_, hK3, rfl, h⟩
  replace hc17 := zb hc17
  replace hF := bifF hc17 hF
  refine qdk hc17 (t := 57) rfl (qi rfl (zd1 rfl (qi rfl ?_)))
  refine zdl 0 2 h rfl ?_
  refine qi rfl ?_
  refine zdl 1 0 h rfl ?_
  refine qi rfl ?_
  obtain ⟨r8, hr10, hF⟩ := qd hF
  refine qdc r8 (vsI _) call106 (fun _ hb => qer ((h.ext hb).old ha1) hr10) rfl rfl rfl rfl ?_
  refine qi rfl (zd3 rfl ?_)
  by_cases hc18 : (a_1.To != r8) = true
  ·replace hF := bifT hc18 hF
   refine qde hc18 (t := 64) rfl (qj rfl rfl rfl (qj rfl rfl rfl (qj rfl rfl rfl (qj rfl rfl rfl (qj rfl rfl rfl (zd1 rfl ?_))))))
   refine qbe (fun w16 hb => ?_)
   replace h := h.ext hb
   clear hb
   obtain rfl := qh hF
   exact qy [(2, _), (3, _), (70, _)] ⟨rfl, rfl, rfl, trivial⟩ ⟨_, hK3, rfl, h⟩
  replace hc18 := zb hc18
  replace hF := bifF hc18 hF
  refine qdk hc18 (t := 64) rfl (qi rfl ?_)
  refine zdl 1 0 h rfl ?_
  refine qi rfl (zd1 rfl (qi rfl ?_))
  refine zdl 0 1 h rfl ?_
  refine qi rfl ?_
  obtain ⟨r9, hr11, hF⟩ := qd hF
  refine qdc r9 (vsB _) call201 (fun _ hb => qhi ((h.ext hb).old ha1) hr11) rfl rfl rfl rfl ?_
  refine qi rfl (zd2 rfl ?_)
  refine qbe (fun w17 hb => ?_)
  replace h := h.ext hb
  clear hb
  obtain rfl := qh hF
  exact qy [(2, _), (3, _), (70, _)] ⟨rfl, rfl, rfl, trivial⟩ ⟨_, hK3, rfl, h⟩
 rintro e3 w18 ⟨b2, hF, rfl, h⟩
 subst hKF3
 refine qt rfl hF ?_ ?_ <;> intro hF
 ·exact zSR (zp1 rfl (qb (qx qc h hF ⟨rfl, trivial⟩)))
 refine zKSSR (zp1 rfl (zl 0 0 h rfl (qb (zBSR (zp2 rfl ?_)))))
 refine qb ?_
 refine qt rfl hF ?_ ?_ <;> intro hF
 ·refine zSR (zp1 rfl (zl 1 2 h rfl (zp1 rfl (zl 0 1 h rfl ?_))))
  obtain ⟨y1, hy1, hF⟩ := qd hF
  have he1 := qf hy1
  obtain ⟨b3, o_1, q1, cs3, hp1, hq1, -, hr5, hc10⟩ := s1.at hy1
  obtain rfl := qaO hr5
  refine zxe hp1 hq1 he1 rfl (zp1 rfl (zc 3 (hc10.below h.below) rfl (zp2 rfl ?_)))
  by_cases hc11 : (!y1.Clock) = true
  ·replace hF := bifT hc11 hF
   refine qE hc11 (t := 83) rfl (qa rfl (zp1 rfl (qa rfl (zl 0 3 h rfl (qa rfl ?_)))))
   obtain ⟨r5, hr6, hF⟩ := qd hF
   refine qq r5 h call100 (qaR hr6) rfl rfl rfl rfl ?_
   intro w12 h
   exact zp2 rfl (qb (qx qc h hF ⟨rfl, trivial⟩))
  replace hc11 := zb hc11
  replace hF := bifF hc11 hF
  exact qD hc11 (t := 83) rfl (zn3 rfl (zp2 rfl (qb (qx qc h hF ⟨rfl, trivial⟩))))
 refine zSSR (zp2 rfl (qb ?_))
 obtain ⟨KF2, hKF2, o2, hF, hK2⟩ := bindE hF
 refine qen (fun e w' => ∃ (b4 : Bool), KF2 b4 = some r ∧ e = [(2, .pointer (some ⟨bb1, 0, none⟩)), (3, .pointer (some ⟨bb2, 0, none⟩)), (88, .bool b4)] ∧ SH w w' [Ch.box bb2 [.int .i64 a_1.Kind, .int .i64 a_1.From, .int .i64 a_1.To, .int .i64 a_1.Sense, .slice p4 a_1.Delay.length k4, .slice p5 a_1.Slew.length k5] 159, Ch.box bb1 [.string a_0.Name, .int .i64 a_0.Kind, .slice p1 a_0.Pins.length k1, .slice p2 a_0.Arcs.length k2, .slice p3 a_0.Truth.length k3, .int .i64 a_0.Leak, .int .i64 a_0.Energy] 155]) ?_ ?_
 ·refine qt rfl hF ?_ ?_ <;> intro hF
  ·refine qel ?_
   obtain rfl := qh hF
   exact qy [(2, _), (3, _), (88, _)] ⟨rfl, rfl, rfl, trivial⟩ ⟨_, hK2, rfl, h⟩
  refine qB (zp2 rfl (qb ?_))
  obtain rfl := qh hF
  exact qy [(2, _), (3, _), (88, _)] ⟨rfl, rfl, rfl, trivial⟩ ⟨_, hK2, rfl, h⟩
 rintro e2 w13 ⟨b4, hF, rfl, h⟩
 subst hKF2
 refine qt rfl hF ?_ ?_ <;> intro hF
 ·refine zSR (zp1 rfl (zl 1 2 h rfl (zp1 rfl (zl 0 1 h rfl ?_))))
  obtain ⟨y2, hy2, hF⟩ := qd hF
  have he2 := qf hy2
  obtain ⟨b5, o_2, q2, cs4, hp2, hq2, -, hr7, hc13⟩ := s1.at hy2
  obtain rfl := qaO hr7
  refine zxe hp2 hq2 he2 rfl (zp1 rfl (zc 3 (hc13.below h.below) rfl (zp1 rfl ?_)))
  by_cases hc14 : y2.Clock = true
  ·replace hF := bifT hc14 hF
   exact qE hc14 (t := 98) rfl (qa rfl (zp1 rfl (qa rfl (zl 0 3 h rfl (qa rfl (zp3 rfl (qb (qx qc h hF ⟨rfl, trivial⟩))))))))
  replace hc14 := zb hc14
  replace hF := bifF hc14 hF
  exact qD hc14 (t := 98) rfl (zn3 rfl (zp2 rfl (qb (qx qc h hF ⟨rfl, trivial⟩))))
 exact zKE (zSR (zp1 rfl (qb (qx qc h hF ⟨rfl, trivial⟩))))

def qdx (_ : Nat) (a_o : qT) (v0 : qT) : Option Bool :=
 bif (a_o.Kind == v0.Kind) then
  bif (a_o.From == v0.From) then
   some (a_o.To == v0.To)
  else
   some false
 else
  some false

theorem qiG {n : Nat} {w : World} {a_o : qT} {v0 : qT} {cs1 : List Value} (ha1 : GoT.R w (old w) a_o cs1) {p3 : Option Addr} (ha2 : GoT.R w (old w) (some v0) [.pointer p3]) {r : Bool} (hF : qdx n a_o v0 = some r) : RetV Tryz.prog 183 [GoT.v qT cs1, .pointer p3] w r := by
 obtain ⟨p1, k1, p2, k2, rfl, s1, s2⟩ := qan ha1
 obtain ⟨b1, o_1, cs2, rfl, -, hr1, hc1⟩ := PtR.get ha2 rfl
 obtain ⟨p4, k3, p5, k4, rfl, s3, s4⟩ := qan hr1
 refine qe Tryz.func183 rfl (m := 23) rfl rfl (fun h => ?_)
 rw [qdx] at hF
 refine zSR (qO h rfl rfl ?_)
 intro w1 bb1 h
 refine zp1 rfl (zNSR (zp1 rfl (zl 0 0 h rfl (zp1 rfl (zc 0 (hc1.below h.below) rfl (zp2 rfl ?_))))))
 by_cases hc2 : (a_o.Kind == v0.Kind) = true
 ·replace hF := bifT hc2 hF
  refine qE hc2 (t := 9) rfl (qa rfl (zp1 rfl (qa rfl (zl 0 1 h rfl (qa rfl (zp1 rfl (qa rfl (zc 1 (hc1.below h.below) rfl (qa rfl (zp2 rfl ?_))))))))))
  refine zp1 rfl ?_
  by_cases hc3 : (a_o.From == v0.From) = true
  ·replace hF := bifT hc3 hF
   refine qE hc3 (t := 16) rfl (qa rfl (zp1 rfl (qa rfl (zl 0 2 h rfl (qa rfl (zp1 rfl (qa rfl (zc 2 (hc1.below h.below) rfl (qa rfl (zp2 rfl ?_))))))))))
   exact zp1 rfl (qb (qx qc h hF ⟨rfl, trivial⟩))
  replace hc3 := zb hc3
  replace hF := bifF hc3 hF
  exact qD hc3 (t := 16) rfl (zn5 rfl (zp2 rfl (qb (qx qc h hF ⟨rfl, trivial⟩))))
 replace hc2 := zb hc2
 replace hF := bifF hc2 hF
 refine qD hc2 (t := 9) rfl (zn5 rfl (zp2 rfl (zn4 rfl ?_)))
 exact zn1 rfl (zp2 rfl (qb (qx qc h hF ⟨rfl, trivial⟩)))

def qJ (s : (List qT)) (f_0 : qT) : Nat → Int → Option (Flow Int Int)
 | 0, _ => none
 | n + 1, i1 =>
  bif decide (i1 < (s.length : Int)) then
   (idx s i1).bind fun y1 =>
   (qdx n y1 f_0).bind fun r1 =>
   bif r1 then
    some (.ret i1)
   else
    qJ s f_0 n (W64 (i1 + 1))
  else
   some (.nxt i1)

def qax (n : Nat) (s : (List qT)) (f_0 : qT) : Option Int :=
 (qJ s f_0 n 0).bind fun o => match o with
 | .ret r => some r
 | .nxt _ =>
  some (-1)

theorem qdX {n : Nat} {w : World} {s : (List qT)} {f_0 : qT} {cs1 : List Value} (ha1 : GoT.R w (old w) s cs1) {p2 : Option Addr} (ha2 : GoT.R w (old w) (some f_0) [.pointer p2]) {r : Int} (hF : qax n s f_0 = some r) : RetV Tryz.prog 141 [GoT.v (List qT) cs1, .func (.func 183) #[] #[.pointer p2]] w r := by
 obtain ⟨p1, k1, rfl, s1⟩ := ha1
 obtain ⟨b1, o_1, cs2, rfl, -, hr1, hc1⟩ := PtR.get ha2 rfl
 obtain ⟨p3, k2, p4, k3, rfl, s2, s3⟩ := qan hr1
 refine qe Tryz.func141 rfl (m := 19) rfl rfl (fun h => ?_)
 rw [qax] at hF
 refine zSR (zp1 rfl (zNSSR (zp3 rfl (qb ?_))))
 obtain ⟨o1, hF, hK1⟩ := qd hF
 refine qw (qS [(0, _), (1, _), (7, _), (8, _)] ⟨rfl, rfl, rfl, rfl, trivial⟩ ?_)
 refine qF (fun m e w' => ∃ (i1 : Int), qJ s f_0 m i1 = some o1 ∧ e = [(0, .slice p1 s.length k1), (1, .func (.func 183) #[] #[.pointer (some ⟨b1, o_1, none⟩)]), (7, .int .i64 (s.length : Int)), (8, .int .i64 i1)] ∧ SH w w' []) n ⟨_, hF, rfl, h⟩ ?_
 rintro m1 e1 w1 ⟨i1, hF, rfl, h⟩
 rcases m1 with _ | m1
 ·rw [qJ] at hF
  cases hF
 rw [qJ] at hF
 refine zSR (zp1 rfl (zNS ?_))
 refine qt rfl hF ?_ ?_ <;> intro hF
 ·refine zKSBSR (zp2 rfl (zNSR (zp2 rfl ?_)))
  refine zp1 rfl ?_
  obtain ⟨y1, hy1, hF⟩ := qd hF
  have he1 := qf hy1
  obtain ⟨b2, o_2, q1, cs3, hp1, hq1, -, hr2, hc3⟩ := s1.at hy1
  obtain ⟨p5, k4, p6, k5, rfl, s4, s5⟩ := qan hr2
  refine zxe hp1 hq1 he1 rfl (zc 0 (hc3.below h.below) rfl ?_)
  obtain ⟨r1, hr3, hF⟩ := qd hF
  refine qq r1 h call183 (qiG (qfs y1 (h.oldS s4) (h.oldS s5)) (h.old ha2) hr3) rfl rfl rfl rfl ?_
  intro w2 h
  refine qb ?_
  refine qt rfl hF ?_ ?_ <;> intro hF
  ·refine zSR (zp2 rfl (qb ?_))
   obtain rfl := qh hF; replace hF := hK1
   exact qaP qc h hF ⟨rfl, trivial⟩
  exact zKER (zp2 rfl (qb (qz m1 [(0, _), (1, _), (7, _), (8, _)] (Nat.lt_succ_self m1) ⟨rfl, rfl, rfl, rfl, trivial⟩ ⟨_, hF, rfl, h⟩)))
 refine qG rfl ?_
 obtain rfl := qh hF; replace hF := hK1
 exact zSR (zp1 rfl (qb (qaP qc h hF ⟨rfl, trivial⟩)))

def qab (n : Nat) (s : (List qT)) (f_0 : qT) : Option Bool :=
 (qax n s f_0).bind fun r1 =>
 some (decide (r1 ≥ 0))

theorem qdG {n : Nat} {w : World} {s : (List qT)} {f_0 : qT} {cs1 : List Value} (ha1 : GoT.R w (old w) s cs1) {p2 : Option Addr} (ha2 : GoT.R w (old w) (some f_0) [.pointer p2]) {r : Bool} (hF : qab n s f_0 = some r) : RetV Tryz.prog 103 [GoT.v (List qT) cs1, .func (.func 183) #[] #[.pointer p2]] w r := by
 obtain ⟨p1, k1, rfl, s1⟩ := ha1
 obtain ⟨b1, o_1, cs2, rfl, -, hr1, hc1⟩ := PtR.get ha2 rfl
 obtain ⟨p3, k2, p4, k3, rfl, s2, s3⟩ := qan hr1
 refine qe Tryz.func103 rfl (m := 9) rfl rfl (fun h => ?_)
 rw [qab] at hF
 refine zSR (zp1 rfl (zNSR (zp2 rfl ?_)))
 obtain ⟨r1, hr2, hF⟩ := qd hF
 refine qY r1 h call141 (qdX ⟨_, _, rfl, (h.oldS s1)⟩ (h.old ha2) hr2) rfl rfl rfl rfl ?_
 intro w1 h
 exact zp2 rfl (qb (qx qc h hF ⟨rfl, trivial⟩))

def qbh (c : qv) : Nat → Int → Option (Flow Bool Int)
 | 0, _ => none
 | n + 1, i1 =>
  bif decide (i1 < (c.Arcs.length : Int)) then
   (idx c.Arcs i1).bind fun y1 =>
   (qe0 n c y1).bind fun r1 =>
   bif (!r1) then
    some (.ret false)
   else
    (subS c.Arcs 0 i1).bind fun x1 =>
    (qab n x1 y1).bind fun r2 =>
    bif r2 then
     some (.ret false)
    else
     qbh c n (W64 (i1 + 1))
  else
   some (.nxt i1)

def qeg (n : Nat) (c : qv) : Option Bool :=
 (qbh c n 0).bind fun o => match o with
 | .ret r => some r
 | .nxt _ =>
  some (decide ((c.Arcs.length : Int) ≤ 8))

theorem qiV {n : Nat} {w : World} {c : qv} {cs1 : List Value} (ha1 : GoT.R w (old w) c cs1) {r : Bool} (hF : qeg n c = some r) : RetV Tryz.prog 172 [GoT.v qv cs1] w r := by
 obtain ⟨p1, k1, p2, k2, p3, k3, rfl, s1, s2, s3⟩ := qU ha1
 refine qe Tryz.func172 rfl (m := 30) rfl rfl (fun h => ?_)
 rw [qeg] at hF
 refine zSR (qO h rfl rfl ?_)
 intro w1 bb1 h
 refine zp1 rfl (zNSSR (zp1 rfl (zl 0 3 h rfl (zp2 rfl (qb ?_)))))
 obtain ⟨o1, hF, hK1⟩ := qd hF
 refine qw (qS [(1, _), (6, _), (7, _), (8, _)] ⟨rfl, rfl, rfl, rfl, trivial⟩ ?_)
 refine qF (fun m e w' => ∃ (i1 : Int), qbh c m i1 = some o1 ∧ e = [(1, .pointer (some ⟨bb1, 0, none⟩)), (6, .slice p2 c.Arcs.length k2), (7, .int .i64 (c.Arcs.length : Int)), (8, .int .i64 i1)] ∧ SH w w' [Ch.box bb1 [.string c.Name, .int .i64 c.Kind, .slice p1 c.Pins.length k1, .slice p2 c.Arcs.length k2, .slice p3 c.Truth.length k3, .int .i64 c.Leak, .int .i64 c.Energy] 155]) n ⟨_, hF, rfl, h⟩ ?_
 rintro m1 e1 w2 ⟨i1, hF, rfl, h⟩
 rcases m1 with _ | m1
 ·rw [qbh] at hF
  cases hF
 rw [qbh] at hF
 refine zSR (zp1 rfl (zNS ?_))
 refine qt rfl hF ?_ ?_ <;> intro hF
 ·refine zKSBSR (zp1 rfl ?_)
  obtain ⟨y1, hy1, hF⟩ := qd hF
  have he1 := qf hy1
  obtain ⟨b1, o_1, q1, cs2, hp1, hq1, -, hr1, hc2⟩ := s2.at hy1
  obtain ⟨p4, k4, p5, k5, rfl, s4, s5⟩ := qan hr1
  refine zxe hp1 hq1 he1 rfl (zc 0 (hc2.below h.below) rfl (qX qc h rfl rfl rfl ?_))
  intro w3 bb2 h
  refine zp1 rfl (zs 0 h rfl ?_)
  intro w4 h
  refine zNSR (zl 1 0 h rfl (zl 0 0 h rfl ?_))
  obtain ⟨r1, hr2, hF⟩ := qd hF
  refine qq r1 h call182 (qjM (h.old ha1) (qfs y1 (h.oldS s4) (h.oldS s5)) hr2) rfl rfl rfl rfl ?_
  intro w5 h
  refine zp2 rfl ?_
  by_cases hc3 : (!r1) = true
  ·replace hF := bifT hc3 hF
   refine qE hc3 (t := 17) rfl (zn5 rfl (zn1 rfl (zp1 rfl (qb (qfb rfl rfl (zSR ?_))))))
   refine zp1 rfl (qb ?_)
   obtain rfl := qh hF; replace hF := hK1
   exact qx qc h hF ⟨rfl, trivial⟩
  replace hc3 := zb hc3
  replace hF := bifF hc3 hF
  refine qD hc3 (t := 17) rfl (qa rfl (zp1 rfl (qa rfl (zl 1 3 h rfl (qa rfl (zp1 rfl (qa rfl ?_)))))))
  obtain ⟨x1, hx1, hF⟩ := qd hF
  obtain ⟨p6, k6, hp2, hk1, hl1, g1⟩ := qpF (h.oldS s2) hx1
  refine r_v (qnm qc rfl rfl rfl (qpp g1 rfl) hp2 hk1 hl1 rfl rfl rfl rfl) rfl ?_
  have s6 := qpH s2 hx1 hp2 hk1
  refine qa rfl (zp1 rfl (qa rfl ?_))
  obtain ⟨r2, hr3, hF⟩ := qd hF
  refine qq r2 h call103 (qdG ⟨_, _, rfl, (h.oldS s6)⟩ (qhQ (x := y1) 0 h rfl (qfs y1 (h.oldS s4) (h.oldS s5))) hr3) rfl rfl rfl rfl ?_
  intro w6 h
  refine zp1 rfl (qb ?_)
  refine qt rfl hF ?_ ?_ <;> intro hF
  ·refine zSR (zp1 rfl (qb ?_))
   obtain rfl := qh hF; replace hF := hK1
   exact qx qc h hF ⟨rfl, trivial⟩
  refine zKER (zp2 rfl (qb ?_))
  replace h := h.pick [1] rfl
  exact qz m1 [(1, _), (6, _), (7, _), (8, _)] (Nat.lt_succ_self m1) ⟨rfl, rfl, rfl, rfl, trivial⟩ ⟨_, hF, rfl, h⟩
 refine qG rfl ?_
 obtain rfl := qh hF; replace hF := hK1
 exact zSR (zp1 rfl (zl 0 3 h rfl (zp3 rfl (qb (qx qc h hF ⟨rfl, trivial⟩)))))

def qf2 (_ : Nat) (a : qT) (v0 : Int) : Option Bool :=
 some (a.Kind == v0)

theorem qjK {n : Nat} {w : World} {a : qT} {v0 : Int} {cs1 : List Value} (ha1 : GoT.R w (old w) a cs1) {p3 : Option Addr} (ha2 : GoT.R w (old w) (some v0) [.pointer p3]) {r : Bool} (hF : qf2 n a v0 = some r) : RetV Tryz.prog 202 [GoT.v qT cs1, .pointer p3] w r := by
 obtain ⟨p1, k1, p2, k2, rfl, s1, s2⟩ := qan ha1
 obtain ⟨b1, o_1, cs2, rfl, -, hr1, hc1⟩ := PtR.get ha2 rfl
 obtain rfl := hr1
 refine qe Tryz.func202 rfl (m := 8) rfl rfl (fun h => ?_)
 rw [qf2] at hF
 refine zSR (qO h rfl rfl ?_)
 intro w1 bb1 h
 exact zp1 rfl (zNSR (zp1 rfl (zl 0 0 h rfl (zc 0 (hc1.below h.below) rfl (zp2 rfl (qb (qx qc h hF ⟨rfl, trivial⟩)))))))

def qM (s : (List qT)) (f_0 : Int) : Nat → Int → Option (Flow Int Int)
 | 0, _ => none
 | n + 1, i1 =>
  bif decide (i1 < (s.length : Int)) then
   (idx s i1).bind fun y1 =>
   (qf2 n y1 f_0).bind fun r1 =>
   bif r1 then
    some (.ret i1)
   else
    qM s f_0 n (W64 (i1 + 1))
  else
   some (.nxt i1)

def qaQ (n : Nat) (s : (List qT)) (f_0 : Int) : Option Int :=
 (qM s f_0 n 0).bind fun o => match o with
 | .ret r => some r
 | .nxt _ =>
  some (-1)

theorem qez {n : Nat} {w : World} {s : (List qT)} {f_0 : Int} {cs1 : List Value} (ha1 : GoT.R w (old w) s cs1) {p2 : Option Addr} (ha2 : GoT.R w (old w) (some f_0) [.pointer p2]) {r : Int} (hF : qaQ n s f_0 = some r) : RetV Tryz.prog 141 [GoT.v (List qT) cs1, .func (.func 202) #[] #[.pointer p2]] w r := by
 obtain ⟨p1, k1, rfl, s1⟩ := ha1
 obtain ⟨b1, o_1, cs2, rfl, -, hr1, hc1⟩ := PtR.get ha2 rfl
 obtain rfl := hr1
 refine qe Tryz.func141 rfl (m := 19) rfl rfl (fun h => ?_)
 rw [qaQ] at hF
 refine zSR (zp1 rfl (zNSSR (zp3 rfl (qb ?_))))
 obtain ⟨o1, hF, hK1⟩ := qd hF
 refine qw (qS [(0, _), (1, _), (7, _), (8, _)] ⟨rfl, rfl, rfl, rfl, trivial⟩ ?_)
 refine qF (fun m e w' => ∃ (i1 : Int), qM s f_0 m i1 = some o1 ∧ e = [(0, .slice p1 s.length k1), (1, .func (.func 202) #[] #[.pointer (some ⟨b1, o_1, none⟩)]), (7, .int .i64 (s.length : Int)), (8, .int .i64 i1)] ∧ SH w w' []) n ⟨_, hF, rfl, h⟩ ?_
 rintro m1 e1 w1 ⟨i1, hF, rfl, h⟩
 rcases m1 with _ | m1
 ·rw [qM] at hF
  cases hF
 rw [qM] at hF
 refine zSR (zp1 rfl (zNS ?_))
 refine qt rfl hF ?_ ?_ <;> intro hF
 ·refine zKSBSR (zp2 rfl (zNSR (zp2 rfl ?_)))
  refine zp1 rfl ?_
  obtain ⟨y1, hy1, hF⟩ := qd hF
  have he1 := qf hy1
  obtain ⟨b2, o_2, q1, cs3, hp1, hq1, -, hr2, hc3⟩ := s1.at hy1
  obtain ⟨p3, k2, p4, k3, rfl, s2, s3⟩ := qan hr2
  refine zxe hp1 hq1 he1 rfl (zc 0 (hc3.below h.below) rfl ?_)
  obtain ⟨r1, hr3, hF⟩ := qd hF
  refine qq r1 h call202 (qjK (qfs y1 (h.oldS s2) (h.oldS s3)) (h.old ha2) hr3) rfl rfl rfl rfl ?_
  intro w2 h
  refine qb ?_
  refine qt rfl hF ?_ ?_ <;> intro hF
  ·refine zSR (zp2 rfl (qb ?_))
   obtain rfl := qh hF; replace hF := hK1
   exact qaP qc h hF ⟨rfl, trivial⟩
  exact zKER (zp2 rfl (qb (qz m1 [(0, _), (1, _), (7, _), (8, _)] (Nat.lt_succ_self m1) ⟨rfl, rfl, rfl, rfl, trivial⟩ ⟨_, hF, rfl, h⟩)))
 refine qG rfl ?_
 obtain rfl := qh hF; replace hF := hK1
 exact zSR (zp1 rfl (qb (qaP qc h hF ⟨rfl, trivial⟩)))

def qaA (n : Nat) (s : (List qT)) (f_0 : Int) : Option Bool :=
 (qaQ n s f_0).bind fun r1 =>
 some (decide (r1 ≥ 0))

theorem qeh {n : Nat} {w : World} {s : (List qT)} {f_0 : Int} {cs1 : List Value} (ha1 : GoT.R w (old w) s cs1) {p2 : Option Addr} (ha2 : GoT.R w (old w) (some f_0) [.pointer p2]) {r : Bool} (hF : qaA n s f_0 = some r) : RetV Tryz.prog 103 [GoT.v (List qT) cs1, .func (.func 202) #[] #[.pointer p2]] w r := by
 obtain ⟨p1, k1, rfl, s1⟩ := ha1
 obtain ⟨b1, o_1, cs2, rfl, -, hr1, hc1⟩ := PtR.get ha2 rfl
 obtain rfl := hr1
 refine qe Tryz.func103 rfl (m := 9) rfl rfl (fun h => ?_)
 rw [qaA] at hF
 refine zSR (zp1 rfl (zNSR (zp2 rfl ?_)))
 obtain ⟨r1, hr2, hF⟩ := qd hF
 refine qY r1 h call141 (qez ⟨_, _, rfl, (h.oldS s1)⟩ (h.old ha2) hr2) rfl rfl rfl rfl ?_
 intro w1 h
 exact zp2 rfl (qb (qx qc h hF ⟨rfl, trivial⟩))

def qct (n : Nat) (c : qv) (kind : Int) : Option Bool :=
 (qaA n c.Arcs kind).bind fun r1 =>
 some r1

theorem qdK {n : Nat} {w : World} {c : qv} {kind : Int} {cs1 : List Value} (ha1 : GoT.R w (old w) c cs1) {r : Bool} (hF : qct n c kind = some r) : RetV Tryz.prog 184 [GoT.v qv cs1, .int .i64 kind] w r := by
 obtain ⟨p1, k1, p2, k2, p3, k3, rfl, s1, s2, s3⟩ := qU ha1
 refine qe Tryz.func184 rfl (m := 9) rfl rfl (fun h => ?_)
 rw [qct] at hF
 refine zSR (qO h rfl rfl ?_)
 intro w1 bb1 h
 refine qO h rfl rfl ?_
 intro w2 bb2 h
 refine zp1 rfl (zNSR (zp1 rfl (zl 1 3 h rfl (zp1 rfl ?_))))
 obtain ⟨r1, hr1, hF⟩ := qd hF
 refine qq r1 h call103 (qeh ⟨_, _, rfl, (h.oldS s2)⟩ (qhQ (x := kind) 0 h rfl rfl) hr1) rfl rfl rfl rfl ?_
 intro w3 h
 exact zp1 rfl (qb (qx qc h hF ⟨rfl, trivial⟩))

def qaD (a_0 : qv) : Nat → Int → Int → Option (Int × Int)
 | 0, _, _ => none
 | n + 1, i1, i2 =>
  bif decide (i2 < (a_0.Pins.length : Int)) then
   (idx a_0.Pins i2).bind fun y1 =>
   bif y1.Clock then
    qaD a_0 n (W64 (i1 + 1)) (W64 (i2 + 1))
   else
    qaD a_0 n i1 (W64 (i2 + 1))
  else
   some (i1, i2)

def qdP (n : Nat) (a_0 : qv) : Option Bool :=
 (qaD a_0 n 0 0).bind fun o => match o with
 | (i1, _) =>
  bif (a_0.Kind == 1) then
   bif (i1 == 0) then
    (qbQ n a_0).bind fun r1 =>
    (shlS 1 r1).bind fun y2 =>
    bif ((a_0.Truth.length : Int) == y2) then
     (qb9 n a_0.Truth 0 1).bind fun r2 =>
     some r2
    else
     some false
   else
    some false
  else
   bif (a_0.Kind == 2) then
    bif (i1 == 1) then
     bif ((a_0.Truth.length : Int) == 0) then
      (qct n a_0 1).bind fun r3 =>
      bif (!r3) then
       (qct n a_0 2).bind fun r4 =>
       (qct n a_0 3).bind fun r5 =>
       some (!(r4 == r5))
      else
       some false
     else
      some false
    else
     some false
   else
    bif (a_0.Kind == 3) then
     bif (i1 == 1) then
      bif ((a_0.Truth.length : Int) == 0) then
       (qct n a_0 1).bind fun r6 =>
       bif r6 then
        (qct n a_0 2).bind fun r7 =>
        bif r7 then
         (qct n a_0 3).bind fun r8 =>
         some (!r8)
        else
         some false
       else
        some false
      else
       some false
     else
      some false
    else
     some false

theorem qiN {n : Nat} {w : World} {a_0 : qv} {cs1 : List Value} (ha1 : GoT.R w (old w) a_0 cs1) {r : Bool} (hF : qdP n a_0 = some r) : RetV Tryz.prog 173 [GoT.v qv cs1] w r := by
 obtain ⟨p1, k1, p2, k2, p3, k3, rfl, s1, s2, s3⟩ := qU ha1
 refine qe Tryz.func173 rfl (m := 83) rfl rfl (fun h => ?_)
 rw [qdP] at hF
 refine zSR (qO h rfl rfl ?_)
 intro w1 bb1 h
 refine zp1 rfl (zNSR (zp1 rfl (zNSSR (zp1 rfl (zl 0 2 h rfl (zp1 rfl ?_))))))
 refine zp1 rfl (qb ?_)
 obtain ⟨o1, hF, hK1⟩ := qd hF
 refine qw (qS [(1, _), (3, _), (7, _), (8, _), (9, _)] ⟨rfl, rfl, rfl, rfl, rfl, trivial⟩ ?_)
 refine qF (fun m e w' => ∃ (i1 : Int) (i2 : Int), qaD a_0 m i1 i2 = some o1 ∧ e = [(1, .pointer (some ⟨bb1, 0, none⟩)), (3, .int .i64 i1), (7, .slice p1 a_0.Pins.length k1), (8, .int .i64 (a_0.Pins.length : Int)), (9, .int .i64 i2)] ∧ SH w w' [Ch.box bb1 [.string a_0.Name, .int .i64 a_0.Kind, .slice p1 a_0.Pins.length k1, .slice p2 a_0.Arcs.length k2, .slice p3 a_0.Truth.length k3, .int .i64 a_0.Leak, .int .i64 a_0.Energy] 155]) n ⟨_, _, hF, rfl, h⟩ ?_
 rintro m1 e1 w2 ⟨i1, i2, hF, rfl, h⟩
 rcases m1 with _ | m1
 ·rw [qaD] at hF
  cases hF
 rw [qaD] at hF
 refine zSR (zp1 rfl (zNS ?_))
 refine qt rfl hF ?_ ?_ <;> intro hF
 ·refine zKSBSR ?_
  obtain ⟨y1, hy1, hF⟩ := qd hF
  have he1 := qf hy1
  obtain ⟨b1, o_1, q1, cs2, hp1, hq1, -, hr1, hc2⟩ := s1.at hy1
  obtain rfl := qaO hr1
  refine zxe hp1 hq1 he1 rfl (zc 0 (hc2.below h.below) rfl (qX qc h rfl rfl rfl ?_))
  intro w3 bb2 h
  refine zs 0 h rfl ?_
  intro w4 h
  refine zNSR (zp1 rfl (zl 0 3 h rfl (qb ?_)))
  refine qt rfl hF ?_ ?_ <;> intro hF
  ·refine qB (zp3 rfl (zNER (zp2 rfl (qb ?_))))
   replace h := h.pick [1] rfl
   exact qz m1 [(1, _), (3, _), (7, _), (8, _), (9, _)] (Nat.lt_succ_self m1) ⟨rfl, rfl, rfl, rfl, rfl, trivial⟩ ⟨_, _, hF, rfl, h⟩
  refine zKER (zp2 rfl (qb ?_))
  replace h := h.pick [1] rfl
  exact qz m1 [(1, _), (3, _), (7, _), (8, _), (9, _)] (Nat.lt_succ_self m1) ⟨rfl, rfl, rfl, rfl, rfl, trivial⟩ ⟨_, _, hF, rfl, h⟩
 refine qG rfl ?_
 obtain rfl := qh hF; replace hF := hK1
 refine zSSR (zp1 rfl (zl 0 1 h rfl (qb (zBSR (zp2 rfl (qb ?_))))))
 refine qt rfl hF ?_ ?_ <;> intro hF
 ·refine qbg ?_
  refine qcY rfl (by kernel_rfl) ?_
  refine zd3 rfl ?_
  by_cases hc5 : (i1 == 0) = true
  ·replace hF := bifT hc5 hF
   refine qde hc5 (t := 24) rfl (qi rfl (zd1 rfl (qi rfl ?_)))
   refine zdl 0 4 h rfl ?_
   refine qi rfl (zd1 rfl (qi rfl ?_))
   refine zdl 0 0 h rfl ?_
   refine qi rfl ?_
   obtain ⟨r1, hr2, hF⟩ := qd hF
   refine qdc r1 (vsI _) call106 (fun _ hb => qer ((h.ext hb).old ha1) hr2) rfl rfl rfl rfl ?_
   refine qi rfl ?_
   obtain ⟨y2, hx1, hF⟩ := qd hF
   obtain ⟨g1, hx1⟩ := qmC hx1
   refine d_v (fun _ hb => qqG g1 rfl rfl) rfl ?_
   rw [hx1]
   refine qi rfl (zd3 rfl ?_)
   by_cases hc6 : ((a_0.Truth.length : Int) == y2) = true
   ·replace hF := bifT hc6 hF
    refine qde hc6 (t := 33) rfl (qi rfl (zd1 rfl (qi rfl ?_)))
    refine zdl 0 4 h rfl ?_
    refine qi rfl ?_
    obtain ⟨r2, hr3, hF⟩ := qd hF
    refine qdc r2 (vsB _) call82 (fun _ hb => qdo ⟨_, _, rfl, ((h.ext hb).oldS s3)⟩ hr3) rfl rfl rfl rfl ?_
    refine zd2 rfl ?_
    refine qbe (fun w5 hb => ?_)
    replace h := h.ext hb
    clear hb
    exact qx qc h hF ⟨rfl, trivial⟩
   replace hc6 := zb hc6
   replace hF := bifF hc6 hF
   refine qdk hc6 (t := 33) rfl (qj rfl rfl rfl (qj rfl rfl rfl (qj rfl rfl rfl (zd2 rfl ?_))))
   refine qbe (fun w6 hb => ?_)
   replace h := h.ext hb
   clear hb
   exact qx qc h hF ⟨rfl, trivial⟩
  replace hc5 := zb hc5
  replace hF := bifF hc5 hF
  refine qdk hc5 (t := 24) rfl (qj rfl rfl rfl (qj rfl rfl rfl (qj rfl rfl rfl (qj rfl rfl rfl (qj rfl rfl rfl (qj rfl rfl rfl (qj rfl rfl rfl (zd2 rfl (qj rfl rfl rfl (qj rfl rfl rfl ?_))))))))))
  refine qj rfl rfl rfl (zd2 rfl ?_)
  refine qbe (fun w7 hb => ?_)
  replace h := h.ext hb
  clear hb
  exact qx qc h hF ⟨rfl, trivial⟩
 refine zSR (zp2 rfl (qb ?_))
 refine qt rfl hF ?_ ?_ <;> intro hF
 ·refine qbg ?_
  refine qcY rfl (by kernel_rfl) ?_
  refine zd3 rfl ?_
  by_cases hc8 : (i1 == 1) = true
  ·replace hF := bifT hc8 hF
   refine qde hc8 (t := 42) rfl (qi rfl (zd1 rfl (qi rfl ?_)))
   refine zdl 0 4 h rfl ?_
   refine qi rfl (zd1 rfl (qi rfl (zd3 rfl ?_)))
   by_cases hc9 : ((a_0.Truth.length : Int) == 0) = true
   ·replace hF := bifT hc9 hF
    refine qde hc9 (t := 48) rfl (qi rfl ?_)
    refine zdl 0 0 h rfl ?_
    refine qi rfl ?_
    obtain ⟨r3, hr4, hF⟩ := qd hF
    refine qdc r3 (vsB _) call184 (fun _ hb => qdK ((h.ext hb).old ha1) hr4) rfl rfl rfl rfl ?_
    refine qi rfl (zd3 rfl ?_)
    by_cases hc10 : (!r3) = true
    ·replace hF := bifT hc10 hF
     refine qde hc10 (t := 53) rfl (qi rfl ?_)
     refine zdl 0 0 h rfl ?_
     refine qi rfl ?_
     obtain ⟨r4, hr5, hF⟩ := qd hF
     refine qdc r4 (vsB _) call184 (fun _ hb => qdK ((h.ext hb).old ha1) hr5) rfl rfl rfl rfl ?_
     refine qi rfl ?_
     refine zdl 0 0 h rfl ?_
     refine qi rfl ?_
     obtain ⟨r5, hr6, hF⟩ := qd hF
     refine qdc r5 (vsB _) call184 (fun _ hb => qdK ((h.ext hb).old ha1) hr6) rfl rfl rfl rfl ?_
     refine qi rfl (zd3 rfl ?_)
     refine qbe (fun w8 hb => ?_)
     replace h := h.ext hb
     clear hb
     exact qx qc h hF ⟨rfl, trivial⟩
    replace hc10 := zb hc10
    replace hF := bifF hc10 hF
    refine qdk hc10 (t := 53) rfl (qj rfl rfl rfl (qj rfl rfl rfl (qj rfl rfl rfl (qj rfl rfl rfl (qj rfl rfl rfl (zd2 rfl ?_))))))
    refine qbe (fun w9 hb => ?_)
    replace h := h.ext hb
    clear hb
    exact qx qc h hF ⟨rfl, trivial⟩
   replace hc9 := zb hc9
   replace hF := bifF hc9 hF
   refine qdk hc9 (t := 48) rfl (qj rfl rfl rfl (qj rfl rfl rfl (qj rfl rfl rfl (zd2 rfl (qj rfl rfl rfl (qj rfl rfl rfl (qj rfl rfl rfl (qj rfl rfl rfl (qj rfl rfl rfl (zd1 rfl ?_))))))))))
   refine zd1 rfl ?_
   refine qbe (fun w10 hb => ?_)
   replace h := h.ext hb
   clear hb
   exact qx qc h hF ⟨rfl, trivial⟩
  replace hc8 := zb hc8
  replace hF := bifF hc8 hF
  refine qdk hc8 (t := 42) rfl (qj rfl rfl rfl (qj rfl rfl rfl (qj rfl rfl rfl (qj rfl rfl rfl (zd2 rfl (qj rfl rfl rfl (qj rfl rfl rfl (qj rfl rfl rfl (zd2 rfl ?_)))))))))
  refine qj rfl rfl rfl (qj rfl rfl rfl (qj rfl rfl rfl (qj rfl rfl rfl (qj rfl rfl rfl (zd2 rfl ?_)))))
  refine qbe (fun w11 hb => ?_)
  replace h := h.ext hb
  clear hb
  exact qx qc h hF ⟨rfl, trivial⟩
 refine zSR (zp2 rfl (qb ?_))
 refine qt rfl hF ?_ ?_ <;> intro hF
 ·refine zSR (zp3 rfl ?_)
  by_cases hc12 : (i1 == 1) = true
  ·replace hF := bifT hc12 hF
   refine qE hc12 (t := 64) rfl (qa rfl (zp1 rfl (qa rfl (zl 0 4 h rfl (qa rfl (zp1 rfl (qa rfl (zp3 rfl ?_))))))))
   by_cases hc13 : ((a_0.Truth.length : Int) == 0) = true
   ·replace hF := bifT hc13 hF
    refine qE hc13 (t := 70) rfl (qa rfl (zl 0 0 h rfl (qa rfl ?_)))
    obtain ⟨r6, hr7, hF⟩ := qd hF
    refine qq r6 h call184 (qdK (h.old ha1) hr7) rfl rfl rfl rfl ?_
    intro w12 h
    refine zp2 rfl ?_
    by_cases hc14 : r6 = true
    ·replace hF := bifT hc14 hF
     refine qE hc14 (t := 74) rfl (qa rfl (zl 0 0 h rfl (qa rfl ?_)))
     obtain ⟨r7, hr8, hF⟩ := qd hF
     refine qq r7 h call184 (qdK (h.old ha1) hr8) rfl rfl rfl rfl ?_
     intro w13 h
     refine zp2 rfl ?_
     by_cases hc15 : r7 = true
     ·replace hF := bifT hc15 hF
      refine qE hc15 (t := 78) rfl (qa rfl (zl 0 0 h rfl (qa rfl ?_)))
      obtain ⟨r8, hr9, hF⟩ := qd hF
      refine qq r8 h call184 (qdK (h.old ha1) hr9) rfl rfl rfl rfl ?_
      intro w14 h
      exact qa rfl (zp3 rfl (qb (qx qc h hF ⟨rfl, trivial⟩)))
     replace hc15 := zb hc15
     replace hF := bifF hc15 hF
     exact qD hc15 (t := 78) rfl (zn3 rfl (zp2 rfl (qb (qx qc h hF ⟨rfl, trivial⟩))))
    replace hc14 := zb hc14
    replace hF := bifF hc14 hF
    exact qD hc14 (t := 74) rfl (zn2 rfl (zp2 rfl (zn3 rfl (zp2 rfl (qb (qx qc h hF ⟨rfl, trivial⟩))))))
   replace hc13 := zb hc13
   replace hF := bifF hc13 hF
   refine qD hc13 (t := 70) rfl (zn2 rfl (zp2 rfl (zn2 rfl (zp2 rfl (zn3 rfl ?_)))))
   exact zp2 rfl (qb (qx qc h hF ⟨rfl, trivial⟩))
  replace hc12 := zb hc12
  replace hF := bifF hc12 hF
  refine qD hc12 (t := 64) rfl (zn4 rfl (zp2 rfl (zn2 rfl (zp2 rfl (zn1 rfl ?_)))))
  exact zn1 rfl (zp2 rfl (zn3 rfl (zp2 rfl (qb (qx qc h hF ⟨rfl, trivial⟩)))))
 exact zKE (zSR (zp1 rfl (qb (qx qc h hF ⟨rfl, trivial⟩))))

def qhg (n : Nat) (c : qv) : Option Bool :=
 (qgd n c.Name).bind fun r1 =>
 bif r1 then
  (qgA n c.Pins).bind fun r2 =>
  bif r2 then
   (qeg n c).bind fun r3 =>
   bif r3 then
    (qa9 n c.Leak 0 100000).bind fun r4 =>
    bif r4 then
     (qa9 n c.Energy 0 100000).bind fun r5 =>
     bif r5 then
      (qdP n c).bind fun r6 =>
      some r6
     else
      some false
    else
     some false
   else
    some false
  else
   some false
 else
  some false

theorem qlz {n : Nat} {w : World} {c : qv} {cs1 : List Value} (ha1 : GoT.R w (old w) c cs1) {r : Bool} (hF : qhg n c = some r) : RetV Tryz.prog 153 [GoT.v qv cs1] w r := by
 obtain ⟨p1, k1, p2, k2, p3, k3, rfl, s1, s2, s3⟩ := qU ha1
 refine qe Tryz.func153 rfl (m := 29) rfl rfl (fun h => ?_)
 rw [qhg] at hF
 refine zSR (qO h rfl rfl ?_)
 intro w1 bb1 h
 refine zp1 rfl (zNSR (zp1 rfl (zl 0 0 h rfl ?_)))
 obtain ⟨r1, hr1, hF⟩ := qd hF
 refine qq r1 h call170 (qja hr1) rfl rfl rfl rfl ?_
 intro w2 h
 refine zp1 rfl ?_
 by_cases hc1 : r1 = true
 ·replace hF := bifT hc1 hF
  refine qE hc1 (t := 6) rfl (qa rfl (zp1 rfl (qa rfl (zl 0 2 h rfl (qa rfl ?_)))))
  obtain ⟨r2, hr2, hF⟩ := qd hF
  refine qq r2 h call171 (qkR ⟨_, _, rfl, (h.oldS s1)⟩ hr2) rfl rfl rfl rfl ?_
  intro w3 h
  refine zp2 rfl ?_
  by_cases hc2 : r2 = true
  ·replace hF := bifT hc2 hF
   refine qE hc2 (t := 11) rfl (qa rfl (zl 0 0 h rfl (qa rfl ?_)))
   obtain ⟨r3, hr3, hF⟩ := qd hF
   refine qq r3 h call172 (qiV (h.old ha1) hr3) rfl rfl rfl rfl ?_
   intro w4 h
   refine zp2 rfl ?_
   by_cases hc3 : r3 = true
   ·replace hF := bifT hc3 hF
    refine qE hc3 (t := 15) rfl (qa rfl (zp1 rfl (qa rfl (zl 0 5 h rfl (qa rfl ?_)))))
    obtain ⟨r4, hr4, hF⟩ := qd hF
    refine qq r4 h call100 (qaR hr4) rfl rfl rfl rfl ?_
    intro w5 h
    refine zp2 rfl ?_
    by_cases hc4 : r4 = true
    ·replace hF := bifT hc4 hF
     refine qE hc4 (t := 20) rfl (qa rfl (zp1 rfl (qa rfl (zl 0 6 h rfl (qa rfl ?_)))))
     obtain ⟨r5, hr5, hF⟩ := qd hF
     refine qq r5 h call100 (qaR hr5) rfl rfl rfl rfl ?_
     intro w6 h
     refine zp2 rfl ?_
     by_cases hc5 : r5 = true
     ·replace hF := bifT hc5 hF
      refine qE hc5 (t := 25) rfl (qa rfl (zl 0 0 h rfl (qa rfl ?_)))
      obtain ⟨r6, hr6, hF⟩ := qd hF
      refine qq r6 h call173 (qiN (h.old ha1) hr6) rfl rfl rfl rfl ?_
      intro w7 h
      exact zp2 rfl (qb (qx qc h hF ⟨rfl, trivial⟩))
     replace hc5 := zb hc5
     replace hF := bifF hc5 hF
     exact qD hc5 (t := 25) rfl (zn2 rfl (zp2 rfl (qb (qx qc h hF ⟨rfl, trivial⟩))))
    replace hc4 := zb hc4
    replace hF := bifF hc4 hF
    exact qD hc4 (t := 20) rfl (zn3 rfl (zp2 rfl (zn2 rfl (zp2 rfl (qb (qx qc h hF ⟨rfl, trivial⟩))))))
   replace hc3 := zb hc3
   replace hF := bifF hc3 hF
   refine qD hc3 (t := 15) rfl (zn3 rfl (zp2 rfl (zn3 rfl (zp2 rfl (zn1 rfl ?_)))))
   exact zn1 rfl (zp2 rfl (qb (qx qc h hF ⟨rfl, trivial⟩)))
  replace hc2 := zb hc2
  replace hF := bifF hc2 hF
  refine qD hc2 (t := 11) rfl (zn2 rfl (zp2 rfl (zn3 rfl (zp2 rfl (zn2 rfl ?_)))))
  exact zn1 rfl (zp2 rfl (zn2 rfl (zp2 rfl (qb (qx qc h hF ⟨rfl, trivial⟩)))))
 replace hc1 := zb hc1
 replace hF := bifF hc1 hF
 refine qD hc1 (t := 6) rfl (zn3 rfl (zp2 rfl (zn2 rfl (zp2 rfl (zn2 rfl ?_)))))
 refine zn1 rfl (zp2 rfl (zn3 rfl (zp2 rfl (zn2 rfl (zp2 rfl ?_)))))
 exact qb (qx qc h hF ⟨rfl, trivial⟩)

def qbB (l : qn) : Nat → (List ByteArray) → Int → Option (Flow Bool ((List ByteArray) × Int))
 | 0, _, _ => none
 | n + 1, x1, i1 =>
  bif decide (i1 < (l.Cells.length : Int)) then
   (idx l.Cells i1).bind fun y1 =>
   (qhg n y1).bind fun r1 =>
   bif (!r1) then
    some (.ret false)
   else
    (appS x1 ([y1.Name] : List ByteArray)).bind fun x2 =>
    qbB l n x2 (W64 (i1 + 1))
  else
   some (.nxt (x1, i1))

def qfu (n : Nat) (l : qn) : Option Bool :=
 (qbB l n ([] : List ByteArray) 0).bind fun o => match o with
 | .ret r => some r
 | .nxt (x1, _) =>
  bif decide ((l.Cells.length : Int) ≤ 8) then
   (qc7 n x1).bind fun r2 =>
   some r2
  else
   some false

theorem qjX {n : Nat} {w : World} {l : qn} {cs1 : List Value} (ha1 : GoT.R w (old w) l cs1) {r : Bool} (hF : qfu n l = some r) : RetV Tryz.prog 124 [GoT.v qn cs1] w r := by
 obtain ⟨p1, k1, rfl, s1⟩ := qbd ha1
 refine qe Tryz.func124 rfl (m := 30) rfl rfl (fun h => ?_)
 rw [qfu] at hF
 refine zSR (qO h rfl rfl ?_)
 intro w1 bb1 h
 refine zp1 rfl (zNSR (zp1 rfl (zNSSR (zp1 rfl (zl 0 0 h rfl (zp1 rfl ?_))))))
 refine zp1 rfl (qb ?_)
 replace h := h.nil (α := ByteArray)
 obtain ⟨o1, hF, hK1⟩ := qd hF
 refine qw (qS [(1, _), (3, _), (7, _), (8, _), (9, _)] ⟨rfl, rfl, rfl, rfl, rfl, trivial⟩ ?_)
 refine qF (fun m e w' => ∃ (S1 : Nat → Prop) (p2 : Option Addr) (ln1 : Nat) (k2 : Nat) (x1 : (List ByteArray)) (i1 : Int), qbB l m x1 i1 = some o1 ∧ e = [(1, .pointer (some ⟨bb1, 0, none⟩)), (3, .slice p2 ln1 k2), (7, .slice p1 l.Cells.length k1), (8, .int .i64 (l.Cells.length : Int)), (9, .int .i64 i1)] ∧ SH w w' [Ch.own S1 (x1 : List ByteArray) [.slice p2 ln1 k2], Ch.box bb1 [.slice p1 l.Cells.length k1] 41]) n ⟨_, _, _, _, _, _, hF, rfl, h⟩ ?_
 rintro m1 e1 w2 ⟨S1, p2, ln1, k2, x1, i1, hF, rfl, h⟩
 obtain rfl := (h.sl 0 rfl).2
 rcases m1 with _ | m1
 ·rw [qbB] at hF
  cases hF
 rw [qbB] at hF
 refine zSR (zp1 rfl (zNS ?_))
 refine qt rfl hF ?_ ?_ <;> intro hF
 ·refine zKSBSR ?_
  obtain ⟨y1, hy1, hF⟩ := qd hF
  have he1 := qf hy1
  obtain ⟨b1, o_1, q1, cs2, hp1, hq1, -, hr1, hc2⟩ := s1.at hy1
  obtain ⟨p3, k3, p4, k4, p5, k5, rfl, s2, s3, s4⟩ := qU hr1
  refine zxe hp1 hq1 he1 rfl (zc 0 (hc2.below h.below) rfl (qX qc h rfl rfl rfl ?_))
  intro w3 bb2 h
  refine zs 0 h rfl ?_
  intro w4 h
  replace h : SH _ _ [Ch.box bb2 [.string y1.Name, .int .i64 y1.Kind, .slice p3 y1.Pins.length k3, .slice p4 y1.Arcs.length k4, .slice p5 y1.Truth.length k5, .int .i64 y1.Leak, .int .i64 y1.Energy] 155, Ch.own S1 (x1 : List ByteArray) [.slice p2 x1.length k2], Ch.box bb1 [.slice p1 l.Cells.length k1] 41] := h
  refine zNSSR (zl 0 0 h rfl ?_)
  obtain ⟨r1, hr2, hF⟩ := qd hF
  refine qq r1 h call153 (qlz (qgc y1 (h.oldS s2) (h.oldS s3) (h.oldS s4)) hr2) rfl rfl rfl rfl ?_
  intro w5 h
  refine zp1 rfl (qb ?_)
  refine qt rfl hF ?_ ?_ <;> intro hF
  ·refine zSR (zp1 rfl (qb ?_))
   obtain rfl := qh hF; replace hF := hK1
   exact qx qc h hF ⟨rfl, trivial⟩
  refine qel (qB (zp2 rfl (zl 0 0 h rfl (qaI qc [.tmp 18] _ ([y1.Name] : List ByteArray) h rfl rfl rfl rfl rfl rfl rfl rfl rfl ⟨rfl, trivial⟩ rfl ?_))))
  intro w6 p6 S2 h
  obtain ⟨x2, hx1, hF⟩ := qd hF
  obtain ⟨g1, hx1⟩ := qbj hx1
  refine qew qc 2 h rfl (h.sl 0 rfl).1 (h.sl 0 rfl).2 rfl rfl rfl rfl rfl rfl rfl rfl rfl g1 hx1 rfl ?_
  intro w7 p7 k6 S3 h
  refine zp1 rfl (zNER (zp2 rfl (qb ?_)))
  replace h := h.pick [2, 3] rfl
  exact qz m1 [(1, _), (3, _), (7, _), (8, _), (9, _)] (Nat.lt_succ_self m1) ⟨rfl, rfl, rfl, rfl, rfl, trivial⟩ ⟨_, _, _, _, _, _, hF, rfl, h⟩
 refine qG rfl ?_
 obtain rfl := qh hF; replace hF := hK1
 refine zSR (zp1 rfl (zl 1 0 h rfl (zp3 rfl ?_)))
 by_cases hc4 : (decide ((l.Cells.length : Int) ≤ 8)) = true
 ·replace hF := bifT hc4 hF
  refine qE hc4 (t := 26) rfl (qa rfl (zp1 rfl (qa rfl ?_)))
  obtain ⟨r2, hr3, hF⟩ := qd hF
  refine qq r2 h call154 (qeA (h.own 0 rfl) hr3) rfl rfl rfl rfl ?_
  intro w8 h
  exact zp2 rfl (qb (qx qc h hF ⟨rfl, trivial⟩))
 replace hc4 := zb hc4
 replace hF := bifF hc4 hF
 exact qD hc4 (t := 26) rfl (zn2 rfl (zp2 rfl (qb (qx qc h hF ⟨rfl, trivial⟩))))

def qaC (d : qg) : Nat → (List ByteArray) → Int → Option ((List ByteArray) × Int)
 | 0, _, _ => none
 | n + 1, x3, i2 =>
  bif decide (i2 < (d.Ports.length : Int)) then
   (idx d.Ports i2).bind fun y2 =>
   (appS x3 ([y2.Name] : List ByteArray)).bind fun x4 =>
   qaC d n x4 (W64 (i2 + 1))
  else
   some (x3, i2)

def qaB (d : qg) : Nat → (List ByteArray) → Int → Option ((List ByteArray) × Int)
 | 0, _, _ => none
 | n + 1, x1, i1 =>
  bif decide (i1 < (d.Instances.length : Int)) then
   (idx d.Instances i1).bind fun y1 =>
   (appS x1 ([y1.Name] : List ByteArray)).bind fun x2 =>
   qaB d n x2 (W64 (i1 + 1))
  else
   some (x1, i1)

def qdd (n : Nat) (d : qg) : Option Bool :=
 (qaB d n ([] : List ByteArray) 0).bind fun o => match o with
 | (x1, _) =>
  (qaC d n ([] : List ByteArray) 0).bind fun o => match o with
  | (x3, _) =>
   bif decide ((x1.length : Int) ≤ 14) then
    bif decide ((d.Nets.length : Int) ≤ 30) then
     bif decide ((x3.length : Int) ≤ 8) then
      (qc7 n x1).bind fun r1 =>
      bif r1 then
       (qc7 n d.Nets).bind fun r2 =>
       bif r2 then
        (qc7 n x3).bind fun r3 =>
        some r3
       else
        some false
      else
       some false
     else
      some false
    else
     some false
   else
    some false

theorem qif {n : Nat} {w : World} {d : qg} {cs1 : List Value} (ha1 : GoT.R w (old w) d cs1) {r : Bool} (hF : qdd n d = some r) : RetV Tryz.prog 125 [GoT.v qg cs1] w r := by
 obtain ⟨p1, k1, p2, k2, p3, k3, rfl, s1, s2, s3⟩ := qak ha1
 refine qe Tryz.func125 rfl (m := 62) rfl rfl (fun h => ?_)
 rw [qdd] at hF
 refine zSR (qO h rfl rfl ?_)
 intro w1 bb1 h
 refine zp1 rfl (zNSR (zp2 rfl (zNSSR (zp1 rfl (zl 0 0 h rfl ?_)))))
 refine zp2 rfl (qb ?_)
 replace h := h.nil (α := ByteArray)
 obtain ⟨o1, hF, hK1⟩ := qd hF
 refine qw (qS [(1, _), (3, _), (4, _), (10, _), (11, _), (12, _)] ⟨rfl, rfl, rfl, rfl, rfl, rfl, trivial⟩ ?_)
 refine qF (fun m e w' => ∃ (S1 : Nat → Prop) (p4 : Option Addr) (ln1 : Nat) (k4 : Nat) (x1 : (List ByteArray)) (i1 : Int), qaB d m x1 i1 = some o1 ∧ e = [(1, .pointer (some ⟨bb1, 0, none⟩)), (3, .slice p4 ln1 k4), (4, .slice none 0 0), (10, .slice p1 d.Instances.length k1), (11, .int .i64 (d.Instances.length : Int)), (12, .int .i64 i1)] ∧ SH w w' [Ch.own S1 (x1 : List ByteArray) [.slice p4 ln1 k4], Ch.box bb1 [.slice p1 d.Instances.length k1, .slice p2 d.Nets.length k2, .slice p3 d.Ports.length k3] 45]) n ⟨_, _, _, _, _, _, hF, rfl, h⟩ ?_
 rintro m1 e1 w2 ⟨S1, p4, ln1, k4, x1, i1, hF, rfl, h⟩
 obtain rfl := (h.sl 0 rfl).2
 rcases m1 with _ | m1
 ·rw [qaB] at hF
  cases hF
 rw [qaB] at hF
 refine zSR (zp1 rfl (zNS ?_))
 refine qt rfl hF ?_ ?_ <;> intro hF
 ·refine zKSBSR ?_
  obtain ⟨y1, hy1, hF⟩ := qd hF
  have he1 := qf hy1
  obtain ⟨b1, o_1, q1, cs2, hp1, hq1, -, hr1, hc2⟩ := s1.at hy1
  obtain ⟨p5, k5, rfl, s4⟩ := qV hr1
  refine zxe hp1 hq1 he1 rfl (zc 0 (hc2.below h.below) rfl (qX qc h rfl rfl rfl ?_))
  intro w3 bb2 h
  refine zs 0 h rfl ?_
  intro w4 h
  replace h : SH _ _ [Ch.box bb2 [.string y1.Name, .int .i64 y1.Cell, .slice p5 y1.Nets.length k5] 126, Ch.own S1 (x1 : List ByteArray) [.slice p4 x1.length k4], Ch.box bb1 [.slice p1 d.Instances.length k1, .slice p2 d.Nets.length k2, .slice p3 d.Ports.length k3] 45] := h
  refine qb (qB (zp2 rfl (zl 0 0 h rfl (qaI qc [.tmp 18] _ ([y1.Name] : List ByteArray) h rfl rfl rfl rfl rfl rfl rfl rfl rfl ⟨rfl, trivial⟩ rfl ?_))))
  intro w5 p6 S2 h
  obtain ⟨x2, hx1, hF⟩ := qd hF
  obtain ⟨g1, hx1⟩ := qbj hx1
  refine qew qc 2 h rfl (h.sl 0 rfl).1 (h.sl 0 rfl).2 rfl rfl rfl rfl rfl rfl rfl rfl rfl g1 hx1 rfl ?_
  intro w6 p7 k6 S3 h
  refine zp1 rfl (zNER (zp2 rfl (qb ?_)))
  replace h := h.pick [2, 3] rfl
  exact qz m1 [(1, _), (3, _), (4, _), (10, _), (11, _), (12, _)] (Nat.lt_succ_self m1) ⟨rfl, rfl, rfl, rfl, rfl, rfl, trivial⟩ ⟨_, _, _, _, _, _, hF, rfl, h⟩
 refine qG rfl ?_
 obtain rfl := qh hF; replace hF := hK1
 refine zSSR (zp1 rfl (zl 1 2 h rfl (zp2 rfl (qb ?_))))
 replace h := h.nil (α := ByteArray)
 obtain ⟨o2, hF, hK2⟩ := qd hF
 refine qw (qS [(1, _), (3, _), (4, _), (23, _), (24, _), (25, _)] ⟨rfl, rfl, rfl, rfl, rfl, rfl, trivial⟩ ?_)
 refine qF (fun m e w' => ∃ (S4 : Nat → Prop) (p8 : Option Addr) (ln2 : Nat) (k7 : Nat) (x3 : (List ByteArray)) (i2 : Int), qaC d m x3 i2 = some o2 ∧ e = [(1, .pointer (some ⟨bb1, 0, none⟩)), (3, .slice p4 x1.length k4), (4, .slice p8 ln2 k7), (23, .slice p3 d.Ports.length k3), (24, .int .i64 (d.Ports.length : Int)), (25, .int .i64 i2)] ∧ SH w w' [Ch.own S4 (x3 : List ByteArray) [.slice p8 ln2 k7], Ch.own S1 (x1 : List ByteArray) [.slice p4 x1.length k4], Ch.box bb1 [.slice p1 d.Instances.length k1, .slice p2 d.Nets.length k2, .slice p3 d.Ports.length k3] 45]) n ⟨_, _, _, _, _, _, hF, rfl, h⟩ ?_
 rintro m2 e2 w7 ⟨S4, p8, ln2, k7, x3, i2, hF, rfl, h⟩
 obtain rfl := (h.sl 0 rfl).2
 rcases m2 with _ | m2
 ·rw [qaC] at hF
  cases hF
 rw [qaC] at hF
 refine zSR (zp1 rfl (zNS ?_))
 refine qt rfl hF ?_ ?_ <;> intro hF
 ·refine zKSBSR ?_
  obtain ⟨y2, hy2, hF⟩ := qd hF
  have he2 := qf hy2
  obtain ⟨b2, o_2, q2, cs3, hp2, hq2, -, hr2, hc4⟩ := s3.at hy2
  obtain rfl := qaS hr2
  refine zxe hp2 hq2 he2 rfl (zc 0 (hc4.below h.below) rfl (qX qc h rfl rfl rfl ?_))
  intro w8 bb3 h
  refine zs 0 h rfl ?_
  intro w9 h
  replace h : SH _ _ [Ch.box bb3 [.string y2.Name, .int .i64 y2.Dir, .int .i64 y2.Net] 148, Ch.own S4 (x3 : List ByteArray) [.slice p8 x3.length k7], Ch.own S1 (x1 : List ByteArray) [.slice p4 x1.length k4], Ch.box bb1 [.slice p1 d.Instances.length k1, .slice p2 d.Nets.length k2, .slice p3 d.Ports.length k3] 45] := h
  refine qb (qB (zp2 rfl (zl 0 0 h rfl (qaI qc [.tmp 31] _ ([y2.Name] : List ByteArray) h rfl rfl rfl rfl rfl rfl rfl rfl rfl ⟨rfl, trivial⟩ rfl ?_))))
  intro w10 p9 S5 h
  obtain ⟨x4, hx2, hF⟩ := qd hF
  obtain ⟨g2, hx2⟩ := qbj hx2
  refine qew qc 2 h rfl (h.sl 0 rfl).1 (h.sl 0 rfl).2 rfl rfl rfl rfl rfl rfl rfl rfl rfl g2 hx2 rfl ?_
  intro w11 p10 k8 S6 h
  refine zp1 rfl (zNER (zp2 rfl (qb ?_)))
  replace h := h.pick [2, 3, 4] rfl
  exact qz m2 [(1, _), (3, _), (4, _), (23, _), (24, _), (25, _)] (Nat.lt_succ_self m2) ⟨rfl, rfl, rfl, rfl, rfl, rfl, trivial⟩ ⟨_, _, _, _, _, _, hF, rfl, h⟩
 refine qG rfl ?_
 obtain rfl := qh hF; replace hF := hK2
 refine zSR (zp4 rfl ?_)
 by_cases hc5 : (decide ((x1.length : Int) ≤ 14)) = true
 ·replace hF := bifT hc5 hF
  refine qE hc5 (t := 38) rfl (qa rfl (zp1 rfl (qa rfl (zl 2 1 h rfl (qa rfl (zp1 rfl (qa rfl (zp3 rfl ?_))))))))
  by_cases hc6 : (decide ((d.Nets.length : Int) ≤ 30)) = true
  ·replace hF := bifT hc6 hF
   refine qE hc6 (t := 44) rfl (qa rfl (zp1 rfl (qa rfl (zp1 rfl (qa rfl (zp3 rfl ?_))))))
   by_cases hc7 : (decide ((x3.length : Int) ≤ 8)) = true
   ·replace hF := bifT hc7 hF
    refine qE hc7 (t := 49) rfl (qa rfl (zp1 rfl (qa rfl ?_)))
    obtain ⟨r1, hr3, hF⟩ := qd hF
    refine qq r1 h call154 (qeA (h.own 1 rfl) hr3) rfl rfl rfl rfl ?_
    intro w12 h
    refine zp2 rfl ?_
    by_cases hc8 : r1 = true
    ·replace hF := bifT hc8 hF
     refine qE hc8 (t := 53) rfl (qa rfl (zp1 rfl (qa rfl (zl 2 1 h rfl (qa rfl ?_)))))
     obtain ⟨r2, hr4, hF⟩ := qd hF
     refine qq r2 h call154 (qeA ⟨_, _, rfl, (h.oldS s2)⟩ hr4) rfl rfl rfl rfl ?_
     intro w13 h
     refine zp2 rfl ?_
     by_cases hc9 : r2 = true
     ·replace hF := bifT hc9 hF
      refine qE hc9 (t := 58) rfl (qa rfl (zp1 rfl (qa rfl ?_)))
      obtain ⟨r3, hr5, hF⟩ := qd hF
      refine qq r3 h call154 (qeA (h.own 0 rfl) hr5) rfl rfl rfl rfl ?_
      intro w14 h
      exact zp2 rfl (qb (qx qc h hF ⟨rfl, trivial⟩))
     replace hc9 := zb hc9
     replace hF := bifF hc9 hF
     exact qD hc9 (t := 58) rfl (zn2 rfl (zp2 rfl (qb (qx qc h hF ⟨rfl, trivial⟩))))
    replace hc8 := zb hc8
    replace hF := bifF hc8 hF
    exact qD hc8 (t := 53) rfl (zn3 rfl (zp2 rfl (zn2 rfl (zp2 rfl (qb (qx qc h hF ⟨rfl, trivial⟩))))))
   replace hc7 := zb hc7
   replace hF := bifF hc7 hF
   refine qD hc7 (t := 49) rfl (zn2 rfl (zp2 rfl (zn3 rfl (zp2 rfl (zn2 rfl ?_)))))
   exact zp2 rfl (qb (qx qc h hF ⟨rfl, trivial⟩))
  replace hc6 := zb hc6
  replace hF := bifF hc6 hF
  refine qD hc6 (t := 44) rfl (zn3 rfl (zp2 rfl (zn2 rfl (zp2 rfl (zn2 rfl ?_)))))
  exact zn1 rfl (zp2 rfl (zn2 rfl (zp2 rfl (qb (qx qc h hF ⟨rfl, trivial⟩)))))
 replace hc5 := zb hc5
 replace hF := bifF hc5 hF
 refine qD hc5 (t := 38) rfl (zn4 rfl (zp2 rfl (zn3 rfl (zp2 rfl ?_))))
 refine zn2 rfl (zp2 rfl (zn3 rfl (zp2 rfl (zn2 rfl (zp1 rfl ?_)))))
 exact zp1 rfl (qb (qx qc h hF ⟨rfl, trivial⟩))

def qdU (_ : Nat) (list : (List qv)) : Option Int :=
 some (list.length : Int)

theorem qid {n : Nat} {w : World} {list : (List qv)} {cs1 : List Value} (ha1 : GoT.R w (old w) list cs1) {r : Int} (hF : qdU n list = some r) : RetV Tryz.prog 155 [GoT.v (List qv) cs1] w r := by
 obtain ⟨p1, k1, rfl, s1⟩ := ha1
 refine qe Tryz.func155 rfl (m := 5) rfl rfl (fun h => ?_)
 rw [qdU] at hF
 exact zSR (zp1 rfl (zNSR (zp3 rfl (qb (qaP qc h hF ⟨rfl, trivial⟩)))))

def qeQ (_ : Nat) (list : (List ByteArray)) : Option Int :=
 some (list.length : Int)

theorem qiO {n : Nat} {w : World} {list : (List ByteArray)} {cs1 : List Value} (ha1 : GoT.R w (old w) list cs1) {r : Int} (hF : qeQ n list = some r) : RetV Tryz.prog 157 [GoT.v (List ByteArray) cs1] w r := by
 obtain ⟨p1, k1, rfl, s1⟩ := ha1
 refine qe Tryz.func157 rfl (m := 5) rfl rfl (fun h => ?_)
 rw [qeQ] at hF
 exact zSR (zp1 rfl (zNSR (zp3 rfl (qb (qaP qc h hF ⟨rfl, trivial⟩)))))

def qcH (n : Nat) (d : qg) (net : Int) : Option Bool :=
 (qeQ n d.Nets).bind fun r1 =>
 (qa9 n net 0 (W64 (r1 - 1))).bind fun r2 =>
 some r2

theorem qfo {n : Nat} {w : World} {d : qg} {net : Int} {cs1 : List Value} (ha1 : GoT.R w (old w) d cs1) {r : Bool} (hF : qcH n d net = some r) : RetV Tryz.prog 127 [GoT.v qg cs1, .int .i64 net] w r := by
 obtain ⟨p1, k1, p2, k2, p3, k3, rfl, s1, s2, s3⟩ := qak ha1
 refine qe Tryz.func127 rfl (m := 11) rfl rfl (fun h => ?_)
 rw [qcH] at hF
 refine zSR (qO h rfl rfl ?_)
 intro w1 bb1 h
 refine zp1 rfl (zNSR (zp2 rfl (zl 0 1 h rfl ?_)))
 obtain ⟨r1, hr1, hF⟩ := qd hF
 refine qY r1 h call157 (qiO ⟨_, _, rfl, (h.oldS s2)⟩ hr1) rfl rfl rfl rfl ?_
 intro w2 h
 refine zp1 rfl ?_
 obtain ⟨r2, hr2, hF⟩ := qd hF
 refine qq r2 h call100 (qaR hr2) rfl rfl rfl rfl ?_
 intro w3 h
 exact zp1 rfl (qb (qx qc h hF ⟨rfl, trivial⟩))

def qb8 (n : Nat) (net : Int) (v0 : qg) : Option Bool :=
 (qcH n v0 net).bind fun r1 =>
 some (!r1)

theorem qhC {n : Nat} {w : World} {net : Int} {v0 : qg} {p1 : Option Addr} (ha1 : GoT.R w (old w) (some v0) [.pointer p1]) {r : Bool} (hF : qb8 n net v0 = some r) : RetV Tryz.prog 156 [.int .i64 net, .pointer p1] w r := by
 obtain ⟨b1, o_1, cs1, rfl, -, hr1, hc1⟩ := PtR.get ha1 rfl
 obtain ⟨p2, k1, p3, k2, p4, k3, rfl, s1, s2, s3⟩ := qak hr1
 refine qe Tryz.func156 rfl (m := 8) rfl rfl (fun h => ?_)
 rw [qb8] at hF
 refine zSR (zp1 rfl (zNSR (zc 0 (hc1.below h.below) rfl (zp1 rfl ?_))))
 obtain ⟨r1, hr2, hF⟩ := qd hF
 refine qq r1 h call127 (qfo (qaW v0 (h.oldS s1) (h.oldS s2) (h.oldS s3)) hr2) rfl rfl rfl rfl ?_
 intro w1 h
 exact zp2 rfl (qb (qx qc h hF ⟨rfl, trivial⟩))

def qI (s : (List Int)) (f_0 : qg) : Nat → Int → Option (Flow Int Int)
 | 0, _ => none
 | n + 1, i1 =>
  bif decide (i1 < (s.length : Int)) then
   (idx s i1).bind fun y1 =>
   (qb8 n y1 f_0).bind fun r1 =>
   bif r1 then
    some (.ret i1)
   else
    qI s f_0 n (W64 (i1 + 1))
  else
   some (.nxt i1)

def qar (n : Nat) (s : (List Int)) (f_0 : qg) : Option Int :=
 (qI s f_0 n 0).bind fun o => match o with
 | .ret r => some r
 | .nxt _ =>
  some (-1)

theorem qdN {n : Nat} {w : World} {s : (List Int)} {f_0 : qg} {cs1 : List Value} (ha1 : GoT.R w (old w) s cs1) {p2 : Option Addr} (ha2 : GoT.R w (old w) (some f_0) [.pointer p2]) {r : Int} (hF : qar n s f_0 = some r) : RetV Tryz.prog 159 [GoT.v (List Int) cs1, .func (.func 156) #[] #[.pointer p2]] w r := by
 obtain ⟨p1, k1, rfl, s1⟩ := ha1
 obtain ⟨b1, o_1, cs2, rfl, -, hr1, hc1⟩ := PtR.get ha2 rfl
 obtain ⟨p3, k2, p4, k3, p5, k4, rfl, s2, s3, s4⟩ := qak hr1
 refine qe Tryz.func159 rfl (m := 19) rfl rfl (fun h => ?_)
 rw [qar] at hF
 refine zSR (zp1 rfl (zNSSR (zp3 rfl (qb ?_))))
 obtain ⟨o1, hF, hK1⟩ := qd hF
 refine qw (qS [(0, _), (1, _), (7, _), (8, _)] ⟨rfl, rfl, rfl, rfl, trivial⟩ ?_)
 refine qF (fun m e w' => ∃ (i1 : Int), qI s f_0 m i1 = some o1 ∧ e = [(0, .slice p1 s.length k1), (1, .func (.func 156) #[] #[.pointer (some ⟨b1, o_1, none⟩)]), (7, .int .i64 (s.length : Int)), (8, .int .i64 i1)] ∧ SH w w' []) n ⟨_, hF, rfl, h⟩ ?_
 rintro m1 e1 w1 ⟨i1, hF, rfl, h⟩
 rcases m1 with _ | m1
 ·rw [qI] at hF
  cases hF
 rw [qI] at hF
 refine zSR (zp1 rfl (zNS ?_))
 refine qt rfl hF ?_ ?_ <;> intro hF
 ·refine zKSBSR (zp2 rfl (zNSR (zp2 rfl ?_)))
  refine zp1 rfl ?_
  obtain ⟨y1, hy1, hF⟩ := qd hF
  have he1 := qf hy1
  obtain ⟨b2, o_2, q1, cs3, hp1, hq1, -, hr2, hc3⟩ := s1.at hy1
  obtain rfl := hr2
  refine zxe hp1 hq1 he1 rfl (zc 0 (hc3.below h.below) rfl ?_)
  obtain ⟨r1, hr3, hF⟩ := qd hF
  refine qq r1 h call156 (qhC (h.old ha2) hr3) rfl rfl rfl rfl ?_
  intro w2 h
  refine qb ?_
  refine qt rfl hF ?_ ?_ <;> intro hF
  ·refine zSR (zp2 rfl (qb ?_))
   obtain rfl := qh hF; replace hF := hK1
   exact qaP qc h hF ⟨rfl, trivial⟩
  exact zKER (zp2 rfl (qb (qz m1 [(0, _), (1, _), (7, _), (8, _)] (Nat.lt_succ_self m1) ⟨rfl, rfl, rfl, rfl, trivial⟩ ⟨_, hF, rfl, h⟩)))
 refine qG rfl ?_
 obtain rfl := qh hF; replace hF := hK1
 exact zSR (zp1 rfl (qb (qaP qc h hF ⟨rfl, trivial⟩)))

def qal (n : Nat) (s : (List Int)) (f_0 : qg) : Option Bool :=
 (qar n s f_0).bind fun r1 =>
 some (decide (r1 ≥ 0))

theorem qdC {n : Nat} {w : World} {s : (List Int)} {f_0 : qg} {cs1 : List Value} (ha1 : GoT.R w (old w) s cs1) {p2 : Option Addr} (ha2 : GoT.R w (old w) (some f_0) [.pointer p2]) {r : Bool} (hF : qal n s f_0 = some r) : RetV Tryz.prog 136 [GoT.v (List Int) cs1, .func (.func 156) #[] #[.pointer p2]] w r := by
 obtain ⟨p1, k1, rfl, s1⟩ := ha1
 obtain ⟨b1, o_1, cs2, rfl, -, hr1, hc1⟩ := PtR.get ha2 rfl
 obtain ⟨p3, k2, p4, k3, p5, k4, rfl, s2, s3, s4⟩ := qak hr1
 refine qe Tryz.func136 rfl (m := 9) rfl rfl (fun h => ?_)
 rw [qal] at hF
 refine zSR (zp1 rfl (zNSR (zp2 rfl ?_)))
 obtain ⟨r1, hr2, hF⟩ := qd hF
 refine qY r1 h call159 (qdN ⟨_, _, rfl, (h.oldS s1)⟩ (h.old ha2) hr2) rfl rfl rfl rfl ?_
 intro w1 h
 exact zp2 rfl (qb (qx qc h hF ⟨rfl, trivial⟩))

def qcG (n : Nat) (d : qg) (l : qn) (x : ql) : Option Bool :=
 (qdU n l.Cells).bind fun r1 =>
 (qa9 n x.Cell 0 (W64 (r1 - 1))).bind fun r2 =>
 bif r2 then
  (idx l.Cells x.Cell).bind fun y1 =>
  bif ((x.Nets.length : Int) == (y1.Pins.length : Int)) then
   (qal n x.Nets d).bind fun r3 =>
   some (!r3)
  else
   some false
 else
  some false

theorem qhW {n : Nat} {w : World} {d : qg} {l : qn} {x : ql} {cs1 : List Value} (ha1 : GoT.R w (old w) d cs1) {cs2 : List Value} (ha2 : GoT.R w (old w) l cs2) {cs3 : List Value} (ha3 : GoT.R w (old w) x cs3) {r : Bool} (hF : qcG n d l x = some r) : RetV Tryz.prog 126 [GoT.v qg cs1, GoT.v qn cs2, GoT.v ql cs3] w r := by
 obtain ⟨p1, k1, p2, k2, p3, k3, rfl, s1, s2, s3⟩ := qak ha1
 obtain ⟨p4, k4, rfl, s4⟩ := qbd ha2
 obtain ⟨p5, k5, rfl, s5⟩ := qV ha3
 refine qe Tryz.func126 rfl (m := 35) rfl rfl (fun h => ?_)
 rw [qcG] at hF
 refine zSR (qO h rfl rfl ?_)
 intro w1 bb1 h
 refine qO h rfl rfl ?_
 intro w2 bb2 h
 refine qO h rfl rfl ?_
 intro w3 bb3 h
 refine zp1 rfl (zNS ?_)
 refine qcY rfl (by kernel_rfl) ?_
 refine zd1 rfl ?_
 refine zdl 0 1 h rfl ?_
 refine zd1 rfl ?_
 refine zdl 1 0 h rfl ?_
 obtain ⟨r1, hr1, hF⟩ := qd hF
 refine qdc r1 (vsI _) call155 (fun _ hb => qid ⟨_, _, rfl, ((h.ext hb).oldS s4)⟩ hr1) rfl rfl rfl rfl ?_
 refine zd1 rfl ?_
 obtain ⟨r2, hr2, hF⟩ := qd hF
 refine qdc r2 (vsB _) call100 (fun _ hb => qaR  hr2) rfl rfl rfl rfl ?_
 refine zd1 rfl ?_
 by_cases hc1 : r2 = true
 ·replace hF := bifT hc1 hF
  refine qde hc1 (t := 14) rfl (qi rfl (zd1 rfl (qi rfl ?_)))
  refine zdl 0 2 h rfl ?_
  refine qi rfl (zd1 rfl (qi rfl (zd1 rfl (qi rfl ?_))))
  refine zdl 1 0 h rfl ?_
  refine qi rfl (zd1 rfl (qi rfl ?_))
  refine zdl 0 1 h rfl ?_
  refine qi rfl ?_
  obtain ⟨y1, hy1, hF⟩ := qd hF
  have he1 := qf hy1
  obtain ⟨b1, o_1, q1, cs4, hp1, hq1, -, hr3, hc2⟩ := s4.at hy1
  obtain ⟨p6, k6, p7, k7, p8, k8, rfl, s6, s7, s8⟩ := qU hr3
  refine zdxe hp1 hq1 he1 rfl ?_
  refine qi rfl (zd1 rfl (qi rfl ?_))
  refine zdc 2 (hc2.below h.below) rfl ?_
  refine qi rfl (zd1 rfl (qi rfl (zd3 rfl ?_)))
  by_cases hc3 : ((x.Nets.length : Int) == (y1.Pins.length : Int)) = true
  ·replace hF := bifT hc3 hF
   refine qde hc3 (t := 28) rfl (qi rfl (zd1 rfl (qi rfl ?_)))
   refine zdl 0 2 h rfl ?_
   refine qi rfl (zd1 rfl (qi rfl ?_))
   obtain ⟨r3, hr4, hF⟩ := qd hF
   refine qdc r3 (vsB _) call136 (fun _ hb => qdC ⟨_, _, rfl, ((h.ext hb).oldS s5)⟩ (qhQ (x := d) 2 (h.ext hb) rfl ((h.ext hb).old ha1)) hr4) rfl rfl rfl rfl ?_
   refine qi rfl (zd3 rfl ?_)
   refine qbe (fun w4 hb => ?_)
   replace h := h.ext hb
   clear hb
   exact qx qc h hF ⟨rfl, trivial⟩
  replace hc3 := zb hc3
  replace hF := bifF hc3 hF
  refine qdk hc3 (t := 28) rfl (qj rfl rfl rfl (qj rfl rfl rfl (qj rfl rfl rfl (qj rfl rfl rfl (qj rfl rfl rfl (zd2 rfl ?_))))))
  refine qbe (fun w5 hb => ?_)
  replace h := h.ext hb
  clear hb
  exact qx qc h hF ⟨rfl, trivial⟩
 replace hc1 := zb hc1
 replace hF := bifF hc1 hF
 refine qdk hc1 (t := 14) rfl (qj rfl rfl rfl (qj rfl rfl rfl (qj rfl rfl rfl (qj rfl rfl rfl (qj rfl rfl rfl (qj rfl rfl rfl (qj rfl rfl rfl (qj rfl rfl rfl (qj rfl rfl rfl (qj rfl rfl rfl (qj rfl rfl rfl ?_)))))))))))
 refine qj rfl rfl rfl (zd2 rfl (qj rfl rfl rfl (qj rfl rfl rfl (qj rfl rfl rfl (qj rfl rfl rfl (qj rfl rfl rfl (zd2 rfl ?_)))))))
 refine qbe (fun w6 hb => ?_)
 replace h := h.ext hb
 clear hb
 exact qx qc h hF ⟨rfl, trivial⟩

def qf3 (_ : Nat) (a_n : Int) : Option Bool :=
 some (a_n != 1)

theorem qjI {n : Nat} {w : World} {a_n : Int}  {r : Bool} (hF : qf3 n a_n = some r) : RetV Tryz.prog 129 [.int .i64 a_n] w r := by
 refine qe Tryz.func129 rfl (m := 5) rfl rfl (fun h => ?_)
 rw [qf3] at hF
 exact zSR (zp1 rfl (zNSR (zp3 rfl (qb (qx qc h hF ⟨rfl, trivial⟩)))))

def qR (s : (List Int)) : Nat → Int → Option (Flow Int Int)
 | 0, _ => none
 | n + 1, i1 =>
  bif decide (i1 < (s.length : Int)) then
   (idx s i1).bind fun y1 =>
   (qf3 n y1).bind fun r1 =>
   bif r1 then
    some (.ret i1)
   else
    qR s n (W64 (i1 + 1))
  else
   some (.nxt i1)

def qbc (n : Nat) (s : (List Int)) : Option Int :=
 (qR s n 0).bind fun o => match o with
 | .ret r => some r
 | .nxt _ =>
  some (-1)

theorem qfe {n : Nat} {w : World} {s : (List Int)} {cs1 : List Value} (ha1 : GoT.R w (old w) s cs1) {r : Int} (hF : qbc n s = some r) : RetV Tryz.prog 158 [GoT.v (List Int) cs1, .func (.func 129) #[] #[]] w r := by
 obtain ⟨p1, k1, rfl, s1⟩ := ha1
 refine qe Tryz.func158 rfl (m := 19) rfl rfl (fun h => ?_)
 rw [qbc] at hF
 refine zSR (zp1 rfl (zNSSR (zp3 rfl (qb ?_))))
 obtain ⟨o1, hF, hK1⟩ := qd hF
 refine qw (qS [(0, _), (1, _), (7, _), (8, _)] ⟨rfl, rfl, rfl, rfl, trivial⟩ ?_)
 refine qF (fun m e w' => ∃ (i1 : Int), qR s m i1 = some o1 ∧ e = [(0, .slice p1 s.length k1), (1, .func (.func 129) #[] #[]), (7, .int .i64 (s.length : Int)), (8, .int .i64 i1)] ∧ SH w w' []) n ⟨_, hF, rfl, h⟩ ?_
 rintro m1 e1 w1 ⟨i1, hF, rfl, h⟩
 rcases m1 with _ | m1
 ·rw [qR] at hF
  cases hF
 rw [qR] at hF
 refine zSR (zp1 rfl (zNS ?_))
 refine qt rfl hF ?_ ?_ <;> intro hF
 ·refine zKSBSR (zp2 rfl (zNSR (zp2 rfl ?_)))
  refine zp1 rfl ?_
  obtain ⟨y1, hy1, hF⟩ := qd hF
  have he1 := qf hy1
  obtain ⟨b1, o_1, q1, cs2, hp1, hq1, -, hr1, hc2⟩ := s1.at hy1
  obtain rfl := hr1
  refine zxe hp1 hq1 he1 rfl (zc 0 (hc2.below h.below) rfl ?_)
  obtain ⟨r1, hr2, hF⟩ := qd hF
  refine qq r1 h call129 (qjI hr2) rfl rfl rfl rfl ?_
  intro w2 h
  refine qb ?_
  refine qt rfl hF ?_ ?_ <;> intro hF
  ·refine zSR (zp2 rfl (qb ?_))
   obtain rfl := qh hF; replace hF := hK1
   exact qaP qc h hF ⟨rfl, trivial⟩
  exact zKER (zp2 rfl (qb (qz m1 [(0, _), (1, _), (7, _), (8, _)] (Nat.lt_succ_self m1) ⟨rfl, rfl, rfl, rfl, trivial⟩ ⟨_, hF, rfl, h⟩)))
 refine qG rfl ?_
 obtain rfl := qh hF; replace hF := hK1
 exact zSR (zp1 rfl (qb (qaP qc h hF ⟨rfl, trivial⟩)))

def qa3 (n : Nat) (s : (List Int)) : Option Bool :=
 (qbc n s).bind fun r1 =>
 some (decide (r1 ≥ 0))

theorem qeH {n : Nat} {w : World} {s : (List Int)} {cs1 : List Value} (ha1 : GoT.R w (old w) s cs1) {r : Bool} (hF : qa3 n s = some r) : RetV Tryz.prog 128 [GoT.v (List Int) cs1, .func (.func 129) #[] #[]] w r := by
 obtain ⟨p1, k1, rfl, s1⟩ := ha1
 refine qe Tryz.func128 rfl (m := 9) rfl rfl (fun h => ?_)
 rw [qa3] at hF
 refine zSR (zp1 rfl (zNSR (zp2 rfl ?_)))
 obtain ⟨r1, hr1, hF⟩ := qd hF
 refine qY r1 h call158 (qfe ⟨_, _, rfl, (h.oldS s1)⟩ hr1) rfl rfl rfl rfl ?_
 intro w1 h
 exact zp2 rfl (qb (qx qc h hF ⟨rfl, trivial⟩))

def qbq (a_1 : qg) : Nat → (List Int) → Int → Option (Flow Bool ((List Int) × Int))
 | 0, _, _ => none
 | n + 1, x3, i2 =>
  bif decide (i2 < (a_1.Ports.length : Int)) then
   (idx a_1.Ports i2).bind fun y5 =>
   (
    bif (y5.Dir != 1) then
     bif (y5.Dir != 2) then
      some true
     else
      (qcH n a_1 y5.Net).bind fun r2 =>
      some (!r2)
    else
     (qcH n a_1 y5.Net).bind fun r3 =>
     some (!r3)).bind fun b7 =>
   bif b7 then
    some (.ret false)
   else
    bif (y5.Dir == 1) then
     (idx x3 y5.Net).bind fun y6 =>
     (idx x3 y5.Net).bind fun _ =>
     qbq a_1 n (setS x3 y5.Net (W64 (y6 + 1))) (W64 (i2 + 1))
    else
     qbq a_1 n x3 (W64 (i2 + 1))
  else
   some (.nxt (x3, i2))

def qbR (a_0 : qn) (a_1 : qg) : Nat → (List Int) → Int → Option (Flow Bool ((List Int) × Int))
 | 0, _, _ => none
 | n + 1, x2, i1 =>
  bif decide (i1 < (a_1.Instances.length : Int)) then
   (idx a_1.Instances i1).bind fun y1 =>
   (qcG n a_1 a_0 y1).bind fun r1 =>
   bif (!r1) then
    some (.ret false)
   else
    (idx y1.Nets (W64 ((y1.Nets.length : Int) - 1))).bind fun y2 =>
    (idx x2 y2).bind fun y3 =>
    (idx x2 y2).bind fun _ =>
    qbR a_0 a_1 n (setS x2 y2 (W64 (y3 + 1))) (W64 (i1 + 1))
  else
   some (.nxt (x2, i1))

def qfO (n : Nat) (a_0 : qn) (a_1 : qg) : Option Bool :=
 (
  (qfu n a_0).bind fun r5 =>
  bif (!r5) then
   some true
  else
   (qdd n a_1).bind fun r6 =>
   some (!r6)).bind fun b1 =>
 bif b1 then
  some false
 else
  (mkS (a_1.Nets.length : Int) (0 : Int)).bind fun x1 =>
  (qbR a_0 a_1 n x1 0).bind fun o => match o with
  | .ret r => some r
  | .nxt (x2, _) =>
   (qbq a_1 n x2 0).bind fun o => match o with
   | .ret r => some r
   | .nxt (x3, _) =>
    (qa3 n x3).bind fun r4 =>
    some (!r4)

theorem qko {n : Nat} {w : World} {a_0 : qn} {a_1 : qg} {cs1 : List Value} (ha1 : GoT.R w (old w) a_0 cs1) {cs2 : List Value} (ha2 : GoT.R w (old w) a_1 cs2) {r : Bool} (hF : qfO n a_0 a_1 = some r) : RetV Tryz.prog 75 [GoT.v qn cs1, GoT.v qg cs2] w r := by
 obtain ⟨p1, k1, rfl, s1⟩ := qbd ha1
 obtain ⟨p2, k2, p3, k3, p4, k4, rfl, s2, s3, s4⟩ := qak ha2
 refine qe Tryz.func75 rfl (m := 84) rfl rfl (fun h => ?_)
 rw [qfO] at hF
 refine zSR (qO h rfl rfl ?_)
 intro w1 bb1 h
 refine qO h rfl rfl ?_
 intro w2 bb2 h
 refine zp1 rfl (zNSS ?_)
 obtain ⟨KF2, hKF2, o4, hF, hK4⟩ := bindE hF
 refine qen (fun e w' => ∃ (b1 : Bool), KF2 b1 = some r ∧ e = [(2, .pointer (some ⟨bb1, 0, none⟩)), (3, .pointer (some ⟨bb2, 0, none⟩)), (17, .bool b1)] ∧ SH w w' [Ch.box bb2 [.slice p2 a_1.Instances.length k2, .slice p3 a_1.Nets.length k3, .slice p4 a_1.Ports.length k4] 45, Ch.box bb1 [.slice p1 a_0.Cells.length k1] 41]) ?_ ?_
 ·refine qB (zl 1 0 h rfl ?_)
  obtain ⟨r5, hr12, hF⟩ := qd hF
  refine qq r5 h call124 (qjX (h.old ha1) hr12) rfl rfl rfl rfl ?_
  intro w17 h
  refine zp2 rfl ?_
  by_cases hc16 : (!r5) = true
  ·replace hF := bifT hc16 hF
   refine qE hc16 (t := 13) rfl (zn3 rfl (zp1 rfl (qb ?_)))
   obtain rfl := qh hF
   exact qy [(2, _), (3, _), (17, _)] ⟨rfl, rfl, rfl, trivial⟩ ⟨_, hK4, rfl, h⟩
  replace hc16 := zb hc16
  replace hF := bifF hc16 hF
  refine qD hc16 (t := 13) rfl (qa rfl (zl 0 0 h rfl (qa rfl ?_)))
  obtain ⟨r6, hr13, hF⟩ := qd hF
  refine qq r6 h call125 (qif (h.old ha2) hr13) rfl rfl rfl rfl ?_
  intro w18 h
  refine qa rfl (zp2 rfl (qb ?_))
  obtain rfl := qh hF
  exact qy [(2, _), (3, _), (17, _)] ⟨rfl, rfl, rfl, trivial⟩ ⟨_, hK4, rfl, h⟩
 rintro e4 w19 ⟨b1, hF, rfl, h⟩
 subst hKF2
 refine qt rfl hF ?_ ?_ <;> intro hF
 ·exact zSR (zp1 rfl (qb (qx qc h hF ⟨rfl, trivial⟩)))
 refine zKSR (zp1 rfl (zl 0 1 h rfl (zp1 rfl ?_)))
 obtain ⟨x1, hx1, hF⟩ := qd hF
 obtain ⟨g1, g2, hx1⟩ := qdB hx1
 refine qeq qc Int h rfl rfl rfl rfl rfl rfl rfl rfl rfl g1 g2 hx1 rfl ?_
 intro w3 S1 p5 h
 refine zp1 rfl (zNSSR (zp1 rfl (zl 1 0 h rfl (zp2 rfl (qb ?_)))))
 obtain ⟨o1, hF, hK1⟩ := qd hF
 refine qw (qS [(2, _), (3, _), (5, _), (23, _), (24, _), (25, _)] ⟨rfl, rfl, rfl, rfl, rfl, rfl, trivial⟩ ?_)
 refine qF (fun m e w' => ∃ (x2 : (List Int)) (i1 : Int), qbR a_0 a_1 m x2 i1 = some o1 ∧ e = [(2, .pointer (some ⟨bb1, 0, none⟩)), (3, .pointer (some ⟨bb2, 0, none⟩)), (5, .slice p5 x1.length x1.length), (23, .slice p2 a_1.Instances.length k2), (24, .int .i64 (a_1.Instances.length : Int)), (25, .int .i64 i1)] ∧ SH w w' [Ch.own S1 (x2 : List Int) [.slice p5 x1.length x1.length], Ch.box bb2 [.slice p2 a_1.Instances.length k2, .slice p3 a_1.Nets.length k3, .slice p4 a_1.Ports.length k4] 45, Ch.box bb1 [.slice p1 a_0.Cells.length k1] 41]) n ⟨_, _, hF, rfl, h⟩ ?_
 rintro m1 e1 w4 ⟨x2, i1, hF, rfl, h⟩
 rcases m1 with _ | m1
 ·rw [qbR] at hF
  cases hF
 rw [qbR] at hF
 refine zSR (zp1 rfl (zNS ?_))
 refine qt rfl hF ?_ ?_ <;> intro hF
 ·refine zKSBSR ?_
  obtain ⟨y1, hy1, hF⟩ := qd hF
  have he1 := qf hy1
  obtain ⟨b2, o_1, q1, cs3, hp1, hq1, -, hr1, hc3⟩ := s2.at hy1
  obtain ⟨p6, k5, rfl, s5⟩ := qV hr1
  refine zxe hp1 hq1 he1 rfl (zc 0 (hc3.below h.below) rfl (qX qc h rfl rfl rfl ?_))
  intro w5 bb3 h
  refine zs 0 h rfl ?_
  intro w6 h
  refine zNSSR (zl 2 0 h rfl (zl 3 0 h rfl (zl 0 0 h rfl ?_)))
  obtain ⟨r1, hr2, hF⟩ := qd hF
  refine qq r1 h call126 (qhW (h.old ha2) (h.old ha1) (qe5 y1 (h.oldS s5)) hr2) rfl rfl rfl rfl ?_
  intro w7 h
  refine zp1 rfl (qb ?_)
  refine qt rfl hF ?_ ?_ <;> intro hF
  ·refine zSR (zp1 rfl (qb ?_))
   obtain rfl := qh hF; replace hF := hK1
   exact qx qc h hF ⟨rfl, trivial⟩
  refine qel (qB (zp2 rfl (zl 0 2 h rfl (zp1 rfl (zl 0 2 h rfl (zp2 rfl ?_))))))
  obtain ⟨y2, hy2, hF⟩ := qd hF
  have he2 := qf hy2
  obtain ⟨b3, o_2, q2, cs4, hp2, hq2, -, hr3, hc5⟩ := s5.at hy2
  obtain rfl := hr3
  refine zxe hp2 hq2 he2 rfl (zc 0 (hc5.below h.below) rfl ?_)
  obtain ⟨y3, hy3, hF⟩ := qd hF
  have he3 := qf hy3
  obtain ⟨b4, o_3, q3, cs5, hp3, hq3, -, hr4, hc6⟩ := (h.sl 1 rfl).1.at hy3
  obtain rfl := hr4
  refine zx hp3 hq3 ⟨he3.1, qaa he3.2.1 (h.sl 1 rfl).2⟩ rfl (zc 0 hc6 rfl (zp1 rfl ?_))
  obtain ⟨y4, hy4, hF⟩ := qd hF
  have he4 := qf hy4
  obtain ⟨b5, o_4, q4, cs6, hp4, hq4, -, hr5, hc7⟩ := (h.sl 1 rfl).1.at hy4
  obtain rfl := hr5
  refine zx hp4 hq4 ⟨he4.1, qaa he4.2.1 (h.sl 1 rfl).2⟩ rfl (qcD qc 1 0 (W64 (y3 + 1)) h rfl hy4 hp4 hq4 rfl hc7 rfl rfl rfl rfl rfl rfl rfl ?_)
  intro w8 h
  refine zNER (zp2 rfl (qb ?_))
  replace h := h.pick [1, 2, 3] rfl
  exact qz m1 [(2, _), (3, _), (5, _), (23, _), (24, _), (25, _)] (Nat.lt_succ_self m1) ⟨rfl, rfl, rfl, rfl, rfl, rfl, trivial⟩ ⟨_, _, hF, rfl, h⟩
 refine qG rfl ?_
 obtain rfl := qh hF; replace hF := hK1
 refine zSSR (zp1 rfl (zl 1 2 h rfl (zp2 rfl (qb ?_))))
 obtain ⟨o2, hF, hK2⟩ := qd hF
 refine qw ?_
 replace h := h.pick [0, 1] rfl
 refine qS [(3, _), (5, _), (49, _), (50, _), (51, _)] ⟨rfl, rfl, rfl, rfl, rfl, trivial⟩ ?_
 refine qF (fun m e w' => ∃ (x3 : (List Int)) (i2 : Int), qbq a_1 m x3 i2 = some o2 ∧ e = [(3, .pointer (some ⟨bb2, 0, none⟩)), (5, .slice p5 x1.length x1.length), (49, .slice p4 a_1.Ports.length k4), (50, .int .i64 (a_1.Ports.length : Int)), (51, .int .i64 i2)] ∧ SH w w' [Ch.own S1 (x3 : List Int) [.slice p5 x1.length x1.length], Ch.box bb2 [.slice p2 a_1.Instances.length k2, .slice p3 a_1.Nets.length k3, .slice p4 a_1.Ports.length k4] 45]) n ⟨_, _, hF, rfl, h⟩ ?_
 rintro m2 e2 w9 ⟨x3, i2, hF, rfl, h⟩
 rcases m2 with _ | m2
 ·rw [qbq] at hF
  cases hF
 rw [qbq] at hF
 refine zSR (zp1 rfl (zNS ?_))
 refine qt rfl hF ?_ ?_ <;> intro hF
 ·refine zKSBSR ?_
  obtain ⟨y5, hy5, hF⟩ := qd hF
  have he5 := qf hy5
  obtain ⟨b6, o_5, q5, cs7, hp5, hq5, -, hr6, hc9⟩ := s4.at hy5
  obtain rfl := qaS hr6
  refine zxe hp5 hq5 he5 rfl (zc 0 (hc9.below h.below) rfl (qX qc h rfl rfl rfl ?_))
  intro w10 bb4 h
  refine zs 0 h rfl ?_
  intro w11 h
  replace h : SH _ _ [Ch.box bb4 [.string y5.Name, .int .i64 y5.Dir, .int .i64 y5.Net] 148, Ch.own S1 (x3 : List Int) [.slice p5 x1.length x1.length], Ch.box bb2 [.slice p2 a_1.Instances.length k2, .slice p3 a_1.Nets.length k3, .slice p4 a_1.Ports.length k4] 45] := h
  refine zNSS ?_
  obtain ⟨KF1, hKF1, o3, hF, hK3⟩ := bindE hF
  refine qen (fun e w' => ∃ (b7 : Bool), KF1 b7 = some o2 ∧ e = [(3, .pointer (some ⟨bb2, 0, none⟩)), (5, .slice p5 x1.length x1.length), (9, .pointer (some ⟨bb4, 0, none⟩)), (49, .slice p4 a_1.Ports.length k4), (50, .int .i64 (a_1.Ports.length : Int)), (51, .int .i64 i2), (69, .bool b7)] ∧ SH w w' [Ch.box bb4 [.string y5.Name, .int .i64 y5.Dir, .int .i64 y5.Net] 148, Ch.own S1 (x3 : List Int) [.slice p5 x1.length x1.length], Ch.box bb2 [.slice p2 a_1.Instances.length k2, .slice p3 a_1.Nets.length k3, .slice p4 a_1.Ports.length k4] 45]) ?_ ?_
  ·refine qB (zp1 rfl (zl 0 1 h rfl (zp2 rfl ?_)))
   by_cases hc14 : (y5.Dir != 1) = true
   ·replace hF := bifT hc14 hF
    refine qE hc14 (t := 58) rfl (qa rfl (zp1 rfl (qa rfl (zl 0 1 h rfl (qa rfl (zp3 rfl ?_))))))
    by_cases hc15 : (y5.Dir != 2) = true
    ·replace hF := bifT hc15 hF
     refine qE hc15 (t := 63) rfl (zn5 rfl (zp1 rfl (qb ?_)))
     obtain rfl := qh hF
     exact qy [(3, _), (5, _), (9, _), (49, _), (50, _), (51, _), (69, _)] ⟨rfl, rfl, rfl, rfl, rfl, rfl, rfl, trivial⟩ ⟨_, hK3, rfl, h⟩
    replace hc15 := zb hc15
    replace hF := bifF hc15 hF
    refine qD hc15 (t := 63) rfl (qa rfl (zl 2 0 h rfl (qa rfl (zp1 rfl (qa rfl (zl 0 2 h rfl (qa rfl ?_)))))))
    obtain ⟨r2, hr9, hF⟩ := qd hF
    refine qq r2 h call127 (qfo (h.old ha2) hr9) rfl rfl rfl rfl ?_
    intro w13 h
    refine qa rfl (zp2 rfl (qb ?_))
    obtain rfl := qh hF
    exact qy [(3, _), (5, _), (9, _), (49, _), (50, _), (51, _), (69, _)] ⟨rfl, rfl, rfl, rfl, rfl, rfl, rfl, trivial⟩ ⟨_, hK3, rfl, h⟩
   replace hc14 := zb hc14
   replace hF := bifF hc14 hF
   refine qD hc14 (t := 58) rfl (zn3 rfl (zp2 rfl (qa rfl (zl 2 0 h rfl (qa rfl (zp1 rfl (qa rfl (zl 0 2 h rfl ?_))))))))
   refine qa rfl ?_
   obtain ⟨r3, hr10, hF⟩ := qd hF
   refine qq r3 h call127 (qfo (h.old ha2) hr10) rfl rfl rfl rfl ?_
   intro w14 h
   refine qa rfl (zp2 rfl (qb ?_))
   obtain rfl := qh hF
   exact qy [(3, _), (5, _), (9, _), (49, _), (50, _), (51, _), (69, _)] ⟨rfl, rfl, rfl, rfl, rfl, rfl, rfl, trivial⟩ ⟨_, hK3, rfl, h⟩
  rintro e3 w15 ⟨b7, hF, rfl, h⟩
  subst hKF1
  refine qt rfl hF ?_ ?_ <;> intro hF
  ·refine zSR (zp1 rfl (qb ?_))
   obtain rfl := qh hF; replace hF := hK2
   exact qx qc h hF ⟨rfl, trivial⟩
  refine zKSR (zp1 rfl (zl 0 1 h rfl (zp1 rfl (qb ?_))))
  refine qt rfl hF ?_ ?_ <;> intro hF
  ·refine qB (zp2 rfl (zl 0 2 h rfl ?_))
   obtain ⟨y6, hy6, hF⟩ := qd hF
   have he6 := qf hy6
   obtain ⟨b8, o_6, q6, cs8, hp6, hq6, -, hr7, hc12⟩ := (h.sl 1 rfl).1.at hy6
   obtain rfl := hr7
   refine zx hp6 hq6 ⟨he6.1, qaa he6.2.1 (h.sl 1 rfl).2⟩ rfl (zc 0 hc12 rfl (zp1 rfl ?_))
   obtain ⟨y7, hy7, hF⟩ := qd hF
   have he7 := qf hy7
   obtain ⟨b9, o_7, q7, cs9, hp7, hq7, -, hr8, hc13⟩ := (h.sl 1 rfl).1.at hy7
   obtain rfl := hr8
   refine zx hp7 hq7 ⟨he7.1, qaa he7.2.1 (h.sl 1 rfl).2⟩ rfl (qcD qc 1 0 (W64 (y6 + 1)) h rfl hy7 hp7 hq7 rfl hc13 rfl rfl rfl rfl rfl rfl rfl ?_)
   intro w12 h
   refine zNER (zp2 rfl (qb ?_))
   replace h := h.pick [1, 2] rfl
   exact qz m2 [(3, _), (5, _), (49, _), (50, _), (51, _)] (Nat.lt_succ_self m2) ⟨rfl, rfl, rfl, rfl, rfl, trivial⟩ ⟨_, _, hF, rfl, h⟩
  refine zKER (zp2 rfl (qb ?_))
  replace h := h.pick [1, 2] rfl
  exact qz m2 [(3, _), (5, _), (49, _), (50, _), (51, _)] (Nat.lt_succ_self m2) ⟨rfl, rfl, rfl, rfl, rfl, trivial⟩ ⟨_, _, hF, rfl, h⟩
 refine qG rfl ?_
 obtain rfl := qh hF; replace hF := hK2
 refine zSR (zp1 rfl ?_)
 obtain ⟨r4, hr11, hF⟩ := qd hF
 refine qq r4 h call128 (qeH (h.own 0 rfl) hr11) rfl rfl rfl rfl ?_
 intro w16 h
 exact zp2 rfl (qb (qx qc h hF ⟨rfl, trivial⟩))

def qaT (i1 : Int) (y1 : ql) : Nat → (List Tplace) → Int → Option ((List Tplace) × Int)
 | 0, _, _ => none
 | n + 1, x2, i2 =>
  bif decide (i2 < (y1.Nets.length : Int)) then
   (idx y1.Nets i2).bind fun y2 =>
   (appS x2 ([(⟨i1, i2, y2, (i2 == (W64 ((y1.Nets.length : Int) - 1)))⟩ : Tplace)] : List Tplace)).bind fun x3 =>
   qaT i1 y1 n x3 (W64 (i2 + 1))
  else
   some (x2, i2)

def qaV (d : qg) : Nat → (List Tplace) → Int → Option ((List Tplace) × Int)
 | 0, _, _ => none
 | n + 1, x4, i3 =>
  bif decide (i3 < (d.Ports.length : Int)) then
   (idx d.Ports i3).bind fun y3 =>
   (appS x4 ([(⟨(-1), i3, y3.Net, (y3.Dir == 1)⟩ : Tplace)] : List Tplace)).bind fun x5 =>
   qaV d n x5 (W64 (i3 + 1))
  else
   some (x4, i3)

def qaU (d : qg) : Nat → (List Tplace) → Int → Option ((List Tplace) × Int)
 | 0, _, _ => none
 | n + 1, x1, i1 =>
  bif decide (i1 < (d.Instances.length : Int)) then
   (idx d.Instances i1).bind fun y1 =>
   (qaT i1 y1 n x1 0).bind fun o => match o with
   | (x2, _) =>
    qaU d n x2 (W64 (i1 + 1))
  else
   some (x1, i1)

def qbH (n : Nat) (d : qg) : Option (List Tplace) :=
 (qaU d n ([] : List Tplace) 0).bind fun o => match o with
 | (x1, _) =>
  (qaV d n x1 0).bind fun o => match o with
  | (x4, _) =>
   some x4

theorem qdV {n : Nat} {w : World} {d : qg} {cs1 : List Value} (ha1 : GoT.R w (old w) d cs1) {r : (List Tplace)} (hF : qbH n d = some r) : RetV Tryz.prog 76 [GoT.v qg cs1] w r := by
 obtain ⟨p1, k1, p2, k2, p3, k3, rfl, s1, s2, s3⟩ := qak ha1
 refine qe Tryz.func76 rfl (m := 61) rfl rfl (fun h => ?_)
 rw [qbH] at hF
 refine zSR (qO h rfl rfl ?_)
 intro w1 bb1 h
 refine zp1 rfl (zNSR (zp1 rfl (zNSSR (zp1 rfl (zl 0 0 h rfl (zp1 rfl ?_))))))
 refine zp1 rfl (qb ?_)
 replace h := h.nil (α := Tplace)
 obtain ⟨o1, hF, hK1⟩ := qd hF
 refine qw (qS [(1, _), (3, _), (11, _), (12, _), (13, _)] ⟨rfl, rfl, rfl, rfl, rfl, trivial⟩ ?_)
 refine qF (fun m e w' => ∃ (S1 : Nat → Prop) (p4 : Option Addr) (ln1 : Nat) (k4 : Nat) (x1 : (List Tplace)) (i1 : Int), qaU d m x1 i1 = some o1 ∧ e = [(1, .pointer (some ⟨bb1, 0, none⟩)), (3, .slice p4 ln1 k4), (11, .slice p1 d.Instances.length k1), (12, .int .i64 (d.Instances.length : Int)), (13, .int .i64 i1)] ∧ SH w w' [Ch.own S1 (x1 : List Tplace) [.slice p4 ln1 k4], Ch.box bb1 [.slice p1 d.Instances.length k1, .slice p2 d.Nets.length k2, .slice p3 d.Ports.length k3] 45]) n ⟨_, _, _, _, _, _, hF, rfl, h⟩ ?_
 rintro m1 e1 w2 ⟨S1, p4, ln1, k4, x1, i1, hF, rfl, h⟩
 obtain rfl := (h.sl 0 rfl).2
 rcases m1 with _ | m1
 ·rw [qaU] at hF
  cases hF
 rw [qaU] at hF
 refine zSR (zp1 rfl (zNS ?_))
 refine qt rfl hF ?_ ?_ <;> intro hF
 ·refine zKSBSR (zp1 rfl ?_)
  obtain ⟨y1, hy1, hF⟩ := qd hF
  have he1 := qf hy1
  obtain ⟨b1, o_1, q1, cs2, hp1, hq1, -, hr1, hc2⟩ := s1.at hy1
  obtain ⟨p5, k5, rfl, s4⟩ := qV hr1
  refine zxe hp1 hq1 he1 rfl (zc 0 (hc2.below h.below) rfl (qX qc h rfl rfl rfl ?_))
  intro w3 bb2 h
  refine zp1 rfl (zs 0 h rfl ?_)
  intro w4 h
  replace h : SH _ _ [Ch.box bb2 [.string y1.Name, .int .i64 y1.Cell, .slice p5 y1.Nets.length k5] 126, Ch.own S1 (x1 : List Tplace) [.slice p4 x1.length k4], Ch.box bb1 [.slice p1 d.Instances.length k1, .slice p2 d.Nets.length k2, .slice p3 d.Ports.length k3] 45] := h
  refine zNSR (zp1 rfl (zl 0 2 h rfl (zp2 rfl (qb ?_))))
  obtain ⟨o2, hF, hK2⟩ := qd hF
  refine qw (qS [(1, _), (3, _), (4, _), (5, _), (11, _), (12, _), (13, _), (19, _), (20, _), (21, _)] ⟨rfl, rfl, rfl, rfl, rfl, rfl, rfl, rfl, rfl, rfl, trivial⟩ ?_)
  refine qF (fun m e w' => ∃ (S2 : Nat → Prop) (p6 : Option Addr) (ln2 : Nat) (k6 : Nat) (x2 : (List Tplace)) (i2 : Int), qaT i1 y1 m x2 i2 = some o2 ∧ e = [(1, .pointer (some ⟨bb1, 0, none⟩)), (3, .slice p6 ln2 k6), (4, .int .i64 i1), (5, .pointer (some ⟨bb2, 0, none⟩)), (11, .slice p1 d.Instances.length k1), (12, .int .i64 (d.Instances.length : Int)), (13, .int .i64 i1), (19, .slice p5 y1.Nets.length k5), (20, .int .i64 (y1.Nets.length : Int)), (21, .int .i64 i2)] ∧ SH w w' [Ch.box bb2 [.string y1.Name, .int .i64 y1.Cell, .slice p5 y1.Nets.length k5] 126, Ch.own S2 (x2 : List Tplace) [.slice p6 ln2 k6], Ch.box bb1 [.slice p1 d.Instances.length k1, .slice p2 d.Nets.length k2, .slice p3 d.Ports.length k3] 45]) m1 ⟨_, _, _, _, _, _, hF, rfl, h⟩ ?_
  rintro m2 e2 w5 ⟨S2, p6, ln2, k6, x2, i2, hF, rfl, h⟩
  obtain rfl := (h.sl 1 rfl).2
  rcases m2 with _ | m2
  ·rw [qaT] at hF
   cases hF
  rw [qaT] at hF
  refine zSR (zp1 rfl (zNS ?_))
  refine qt rfl hF ?_ ?_ <;> intro hF
  ·refine zKSBSR (zp1 rfl ?_)
   obtain ⟨y2, hy2, hF⟩ := qd hF
   have he2 := qf hy2
   obtain ⟨b2, o_2, q2, cs3, hp2, hq2, -, hr2, hc4⟩ := s4.at hy2
   obtain rfl := hr2
   refine zxe hp2 hq2 he2 rfl (zc 0 (hc4.below h.below) rfl (zp2 rfl (qb (qB (zp5 rfl (zp1 rfl ?_))))))
   refine zl 0 2 h rfl (zp3 rfl (r_v (qgu qc [0, 1, 2, 3] [.tmp 27, .tmp 28, .tmp 29, .tmp 35] rfl rfl rfl rfl rfl rfl rfl rfl) rfl (qaI qc [.tmp 36] _ ([(⟨i1, i2, y2, (i2 == (W64 ((y1.Nets.length : Int) - 1)))⟩ : Tplace)] : List Tplace) h rfl rfl rfl rfl rfl rfl rfl rfl rfl ⟨(qg7 (⟨i1, i2, y2, (i2 == (W64 ((y1.Nets.length : Int) - 1)))⟩ : Tplace)), trivial⟩ rfl ?_)))
   intro w6 p7 S3 h
   obtain ⟨x3, hx1, hF⟩ := qd hF
   obtain ⟨g1, hx1⟩ := qbj hx1
   refine qew qc 2 h rfl (h.sl 0 rfl).1 (h.sl 0 rfl).2 rfl rfl rfl rfl rfl rfl rfl rfl rfl g1 hx1 rfl ?_
   intro w7 p8 k7 S4 h
   refine zp1 rfl (zNER (zp2 rfl (qb ?_)))
   replace h := h.pick [1, 2, 3] rfl
   exact qz m2 [(1, _), (3, _), (4, _), (5, _), (11, _), (12, _), (13, _), (19, _), (20, _), (21, _)] (Nat.lt_succ_self m2) ⟨rfl, rfl, rfl, rfl, rfl, rfl, rfl, rfl, rfl, rfl, trivial⟩ ⟨_, _, _, _, _, _, hF, rfl, h⟩
  refine qG rfl ?_
  obtain rfl := qh hF; replace hF := hK2
  refine qff (qB (zp2 rfl (qb ?_)))
  replace h := h.pick [1, 2] rfl
  exact qz m1 [(1, _), (3, _), (11, _), (12, _), (13, _)] (Nat.lt_succ_self m1) ⟨rfl, rfl, rfl, rfl, rfl, trivial⟩ ⟨_, _, _, _, _, _, hF, rfl, h⟩
 refine qG rfl ?_
 obtain rfl := qh hF; replace hF := hK1
 refine zSSR (zp1 rfl (zl 1 2 h rfl (zp2 rfl (qb ?_))))
 obtain ⟨o3, hF, hK3⟩ := qd hF
 refine qw ?_
 replace h := h.pick [0] rfl
 refine qS [(3, _), (42, _), (43, _), (44, _)] ⟨rfl, rfl, rfl, rfl, trivial⟩ ?_
 refine qF (fun m e w' => ∃ (S5 : Nat → Prop) (p9 : Option Addr) (ln3 : Nat) (k8 : Nat) (x4 : (List Tplace)) (i3 : Int), qaV d m x4 i3 = some o3 ∧ e = [(3, .slice p9 ln3 k8), (42, .slice p3 d.Ports.length k3), (43, .int .i64 (d.Ports.length : Int)), (44, .int .i64 i3)] ∧ SH w w' [Ch.own S5 (x4 : List Tplace) [.slice p9 ln3 k8]]) n ⟨_, _, _, _, _, _, hF, rfl, h⟩ ?_
 rintro m3 e3 w8 ⟨S5, p9, ln3, k8, x4, i3, hF, rfl, h⟩
 obtain rfl := (h.sl 0 rfl).2
 rcases m3 with _ | m3
 ·rw [qaV] at hF
  cases hF
 rw [qaV] at hF
 refine zSR (zp1 rfl (zNS ?_))
 refine qt rfl hF ?_ ?_ <;> intro hF
 ·refine zKSBSR (zp1 rfl ?_)
  obtain ⟨y3, hy3, hF⟩ := qd hF
  have he3 := qf hy3
  obtain ⟨b3, o_3, q3, cs4, hp3, hq3, -, hr3, hc6⟩ := s3.at hy3
  obtain rfl := qaS hr3
  refine zxe hp3 hq3 he3 rfl (zc 0 (hc6.below h.below) rfl (qX qc h rfl rfl rfl ?_))
  intro w9 bb3 h
  refine zp1 rfl (zs 0 h rfl ?_)
  intro w10 h
  refine qb (qB (zp3 rfl (zl 0 2 h rfl (zp1 rfl (zl 0 1 h rfl (zp1 rfl (r_v (qgu qc [0, 1, 2, 3] [.const (.int .i64 (-1)), .tmp 50, .tmp 52, .tmp 55] rfl rfl rfl rfl rfl rfl rfl rfl) rfl (qaI qc [.tmp 56] _ ([(⟨(-1), i3, y3.Net, (y3.Dir == 1)⟩ : Tplace)] : List Tplace) h rfl rfl rfl rfl rfl rfl rfl rfl rfl ⟨(qg7 (⟨(-1), i3, y3.Net, (y3.Dir == 1)⟩ : Tplace)), trivial⟩ rfl ?_))))))))
  intro w11 p10 S6 h
  obtain ⟨x5, hx2, hF⟩ := qd hF
  obtain ⟨g2, hx2⟩ := qbj hx2
  refine qew qc 2 h rfl (h.sl 0 rfl).1 (h.sl 0 rfl).2 rfl rfl rfl rfl rfl rfl rfl rfl rfl g2 hx2 rfl ?_
  intro w12 p11 k9 S7 h
  refine zp1 rfl (zNER (zp2 rfl (qb ?_)))
  replace h := h.pick [2] rfl
  exact qz m3 [(3, _), (42, _), (43, _), (44, _)] (Nat.lt_succ_self m3) ⟨rfl, rfl, rfl, rfl, trivial⟩ ⟨_, _, _, _, _, _, hF, rfl, h⟩
 refine qG rfl ?_
 obtain rfl := qh hF; replace hF := hK3
 refine zSR (zp2 rfl (qb ?_))
 obtain rfl := qh hF
 exact qaf qc (ρ := (List Tplace)) [GoT.v (List Tplace) [.slice p9 x4.length k8]] h ⟨rfl, trivial⟩ (PV.done h (qaj (qad 0 h rfl)))

def qaJ (a_w : qQ) : Nat → Int → Option (Flow Bool Int)
 | 0, _ => none
 | n + 1, i1 =>
  bif decide (i1 < (a_w.Parent.length : Int)) then
   (idx a_w.Parent i1).bind fun y1 =>
   bif (i1 == 0) then
    bif (y1 != (-1)) then
     some (.ret false)
    else
     (idx a_w.Res 0).bind fun y2 =>
     bif (y2 != 0) then
      some (.ret false)
     else
      bif decide (i1 > 0) then
       (qa9 n y1 0 (W64 (i1 - 1))).bind fun r1 =>
       bif (!r1) then
        some (.ret false)
       else
        qaJ a_w n (W64 (i1 + 1))
      else
       qaJ a_w n (W64 (i1 + 1))
   else
    bif decide (i1 > 0) then
     (qa9 n y1 0 (W64 (i1 - 1))).bind fun r2 =>
     bif (!r2) then
      some (.ret false)
     else
      qaJ a_w n (W64 (i1 + 1))
    else
     qaJ a_w n (W64 (i1 + 1))
  else
   some (.nxt i1)

def qes (n : Nat) (a_w : qQ) : Option Bool :=
 (qaJ a_w n 0).bind fun o => match o with
 | .ret r => some r
 | .nxt _ =>
  some true

theorem qjA {n : Nat} {w : World} {a_w : qQ} {cs1 : List Value} (ha1 : GoT.R w (old w) a_w cs1) {r : Bool} (hF : qes n a_w = some r) : RetV Tryz.prog 130 [GoT.v qQ cs1] w r := by
 obtain ⟨p1, k1, p2, k2, p3, k3, p4, k4, rfl, s1, s2, s3, s4⟩ := qbl ha1
 refine qe Tryz.func130 rfl (m := 38) rfl rfl (fun h => ?_)
 rw [qes] at hF
 refine zSR (qO h rfl rfl ?_)
 intro w1 bb1 h
 refine zp1 rfl (zNSSR (zp1 rfl (zl 0 0 h rfl (zp2 rfl (qb ?_)))))
 obtain ⟨o1, hF, hK1⟩ := qd hF
 refine qw (qS [(1, _), (6, _), (7, _), (8, _)] ⟨rfl, rfl, rfl, rfl, trivial⟩ ?_)
 refine qF (fun m e w' => ∃ (i1 : Int), qaJ a_w m i1 = some o1 ∧ e = [(1, .pointer (some ⟨bb1, 0, none⟩)), (6, .slice p1 a_w.Parent.length k1), (7, .int .i64 (a_w.Parent.length : Int)), (8, .int .i64 i1)] ∧ SH w w' [Ch.box bb1 [.slice p1 a_w.Parent.length k1, .slice p2 a_w.Res.length k2, .slice p3 a_w.Cap.length k3, .slice p4 a_w.Sink.length k4] 117]) n ⟨_, hF, rfl, h⟩ ?_
 rintro m1 e1 w2 ⟨i1, hF, rfl, h⟩
 rcases m1 with _ | m1
 ·rw [qaJ] at hF
  cases hF
 rw [qaJ] at hF
 refine zSR (zp1 rfl (zNS ?_))
 refine qt rfl hF ?_ ?_ <;> intro hF
 ·refine zKSBSR (zp1 rfl ?_)
  obtain ⟨y1, hy1, hF⟩ := qd hF
  have he1 := qf hy1
  obtain ⟨b1, o_1, q1, cs2, hp1, hq1, -, hr1, hc2⟩ := s1.at hy1
  obtain rfl := hr1
  refine zxe hp1 hq1 he1 rfl (zc 0 (hc2.below h.below) rfl (zp2 rfl (zNSR (zp3 rfl ?_))))
  by_cases hc3 : (i1 == 0) = true
  ·replace hF := bifT hc3 hF
   refine qE hc3 (t := 15) rfl (qa rfl (zp1 rfl (qa rfl (zp1 rfl (qa rfl (zp1 rfl ?_))))))
   by_cases hc4 : (y1 != (-1)) = true
   ·replace hF := bifT hc4 hF
    refine qE hc4 (t := 18) rfl (zn5 rfl (qa rfl (zp3 rfl (zn2 rfl ?_))))
    refine zn5 rfl (zn2 rfl (zp1 rfl (qb (qfb rfl rfl (zSR ?_)))))
    refine zp1 rfl (qb ?_)
    obtain rfl := qh hF; replace hF := hK1
    exact qx qc h hF ⟨rfl, trivial⟩
   replace hc4 := zb hc4
   replace hF := bifF hc4 hF
   refine qD hc4 (t := 18) rfl (qa rfl (zp1 rfl (qa rfl (zl 0 1 h rfl (qa rfl ?_)))))
   obtain ⟨y2, hy2, hF⟩ := qd hF
   have he2 := qf hy2
   obtain ⟨b2, o_2, q2, cs3, hp2, hq2, -, hr2, hc5⟩ := s2.at hy2
   obtain rfl := hr2
   refine zxe hp2 hq2 he2 rfl (qa rfl (zc 0 (hc5.below h.below) rfl (qa rfl (zp1 rfl (qa rfl (zp3 rfl ?_))))))
   by_cases hc6 : (y2 != 0) = true
   ·replace hF := bifT hc6 hF
    refine qE hc6 (t := 26) rfl (zn5 rfl (zn4 rfl (zp1 rfl (qb ?_))))
    refine qfb rfl rfl (zSR (zp1 rfl (qb ?_)))
    obtain rfl := qh hF; replace hF := hK1
    exact qx qc h hF ⟨rfl, trivial⟩
   replace hc6 := zb hc6
   replace hF := bifF hc6 hF
   refine qD hc6 (t := 26) rfl (qa rfl (zp1 rfl (qa rfl (zp1 rfl (qa rfl (zp1 rfl ?_))))))
   by_cases hc7 : (decide (i1 > 0)) = true
   ·replace hF := bifT hc7 hF
    refine qE hc7 (t := 29) rfl (qa rfl (zp1 rfl (qa rfl (zp1 rfl (qa rfl (zp1 rfl (qa rfl ?_)))))))
    obtain ⟨r1, hr3, hF⟩ := qd hF
    refine qq r1 h call100 (qaR hr3) rfl rfl rfl rfl ?_
    intro w3 h
    refine qa rfl (zp1 rfl (qa rfl (zp2 rfl (qb ?_))))
    refine qt rfl hF ?_ ?_ <;> intro hF
    ·refine zSR (zp1 rfl (qb ?_))
     obtain rfl := qh hF; replace hF := hK1
     exact qx qc h hF ⟨rfl, trivial⟩
    exact zKER (zp2 rfl (qb (qz m1 [(1, _), (6, _), (7, _), (8, _)] (Nat.lt_succ_self m1) ⟨rfl, rfl, rfl, rfl, trivial⟩ ⟨_, hF, rfl, h⟩)))
   replace hc7 := zb hc7
   replace hF := bifF hc7 hF
   refine qD hc7 (t := 29) rfl (zn5 rfl (qa rfl (zp2 rfl (qb (qeP rfl rfl (qel ?_))))))
   exact qff (qB (zp2 rfl (qb (qz m1 [(1, _), (6, _), (7, _), (8, _)] (Nat.lt_succ_self m1) ⟨rfl, rfl, rfl, rfl, trivial⟩ ⟨_, hF, rfl, h⟩))))
  replace hc3 := zb hc3
  replace hF := bifF hc3 hF
  refine qD hc3 (t := 15) rfl (zn5 rfl (zn4 rfl (zp2 rfl ?_)))
  refine qa rfl (zp1 rfl (qa rfl (zp1 rfl (qa rfl (zp1 rfl ?_)))))
  by_cases hc9 : (decide (i1 > 0)) = true
  ·replace hF := bifT hc9 hF
   refine qE hc9 (t := 29) rfl (qa rfl (zp1 rfl (qa rfl (zp1 rfl (qa rfl (zp1 rfl (qa rfl ?_)))))))
   obtain ⟨r2, hr4, hF⟩ := qd hF
   refine qq r2 h call100 (qaR hr4) rfl rfl rfl rfl ?_
   intro w4 h
   refine qa rfl (zp1 rfl (qa rfl (zp2 rfl (qb ?_))))
   refine qt rfl hF ?_ ?_ <;> intro hF
   ·refine zSR (zp1 rfl (qb ?_))
    obtain rfl := qh hF; replace hF := hK1
    exact qx qc h hF ⟨rfl, trivial⟩
   exact zKER (zp2 rfl (qb (qz m1 [(1, _), (6, _), (7, _), (8, _)] (Nat.lt_succ_self m1) ⟨rfl, rfl, rfl, rfl, trivial⟩ ⟨_, hF, rfl, h⟩)))
  replace hc9 := zb hc9
  replace hF := bifF hc9 hF
  refine qD hc9 (t := 29) rfl (zn5 rfl (qa rfl (zp2 rfl (qb (qeP rfl rfl (qel ?_))))))
  exact qff (qB (zp2 rfl (qb (qz m1 [(1, _), (6, _), (7, _), (8, _)] (Nat.lt_succ_self m1) ⟨rfl, rfl, rfl, rfl, trivial⟩ ⟨_, hF, rfl, h⟩))))
 refine qG rfl ?_
 obtain rfl := qh hF; replace hF := hK1
 exact zSR (zp1 rfl (qb (qx qc h hF ⟨rfl, trivial⟩)))

def qhm (n : Nat) (a_w : qQ) (sinks : Int) : Option Bool :=
 (qa7 n a_w.Parent).bind fun r1 =>
 (qa9 n r1 1 8).bind fun r2 =>
 bif r2 then
  (qa7 n a_w.Res).bind fun r3 =>
  bif (r3 == r1) then
   (qa7 n a_w.Cap).bind fun r4 =>
   bif (r4 == r1) then
    (qes n a_w).bind fun r5 =>
    bif r5 then
     (qb9 n a_w.Res 0 1000).bind fun r6 =>
     bif r6 then
      (qb9 n a_w.Cap 0 500).bind fun r7 =>
      bif r7 then
       (qa7 n a_w.Sink).bind fun r8 =>
       bif (r8 == sinks) then
        (qb9 n a_w.Sink 0 (W64 (r1 - 1))).bind fun r9 =>
        some r9
       else
        some false
      else
       some false
     else
      some false
    else
     some false
   else
    some false
  else
   some false
 else
  some false

theorem qls {n : Nat} {w : World} {a_w : qQ} {sinks : Int} {cs1 : List Value} (ha1 : GoT.R w (old w) a_w cs1) {r : Bool} (hF : qhm n a_w sinks = some r) : RetV Tryz.prog 77 [GoT.v qQ cs1, .int .i64 sinks] w r := by
 obtain ⟨p1, k1, p2, k2, p3, k3, p4, k4, rfl, s1, s2, s3, s4⟩ := qbl ha1
 refine qe Tryz.func77 rfl (m := 53) rfl rfl (fun h => ?_)
 rw [qhm] at hF
 refine zSR (qO h rfl rfl ?_)
 intro w1 bb1 h
 refine zp1 rfl (zNSR (zp1 rfl (zl 0 0 h rfl ?_)))
 obtain ⟨r1, hr1, hF⟩ := qd hF
 refine qY r1 h call79 (qco ⟨_, _, rfl, (h.oldS s1)⟩ hr1) rfl rfl rfl rfl ?_
 intro w2 h
 refine zp1 rfl (zNSR (zp1 rfl ?_))
 obtain ⟨r2, hr2, hF⟩ := qd hF
 refine qq r2 h call100 (qaR hr2) rfl rfl rfl rfl ?_
 intro w3 h
 refine zp1 rfl ?_
 by_cases hc1 : r2 = true
 ·replace hF := bifT hc1 hF
  refine qE hc1 (t := 11) rfl (qa rfl (zp1 rfl (qa rfl (zl 0 1 h rfl (qa rfl ?_)))))
  obtain ⟨r3, hr3, hF⟩ := qd hF
  refine qY r3 h call79 (qco ⟨_, _, rfl, (h.oldS s2)⟩ hr3) rfl rfl rfl rfl ?_
  intro w4 h
  refine qa rfl (zp1 rfl (qa rfl (zp3 rfl ?_)))
  by_cases hc2 : (r3 == r1) = true
  ·replace hF := bifT hc2 hF
   refine qE hc2 (t := 18) rfl (qa rfl (zp1 rfl (qa rfl (zl 0 2 h rfl (qa rfl ?_)))))
   obtain ⟨r4, hr4, hF⟩ := qd hF
   refine qY r4 h call79 (qco ⟨_, _, rfl, (h.oldS s3)⟩ hr4) rfl rfl rfl rfl ?_
   intro w5 h
   refine qa rfl (zp1 rfl (qa rfl (zp3 rfl ?_)))
   by_cases hc3 : (r4 == r1) = true
   ·replace hF := bifT hc3 hF
    refine qE hc3 (t := 25) rfl (qa rfl (zl 0 0 h rfl (qa rfl ?_)))
    obtain ⟨r5, hr5, hF⟩ := qd hF
    refine qq r5 h call130 (qjA (h.old ha1) hr5) rfl rfl rfl rfl ?_
    intro w6 h
    refine zp2 rfl ?_
    by_cases hc4 : r5 = true
    ·replace hF := bifT hc4 hF
     refine qE hc4 (t := 29) rfl (qa rfl (zp1 rfl (qa rfl (zl 0 1 h rfl (qa rfl ?_)))))
     obtain ⟨r6, hr6, hF⟩ := qd hF
     refine qq r6 h call82 (qdo ⟨_, _, rfl, (h.oldS s2)⟩ hr6) rfl rfl rfl rfl ?_
     intro w7 h
     refine zp2 rfl ?_
     by_cases hc5 : r6 = true
     ·replace hF := bifT hc5 hF
      refine qE hc5 (t := 34) rfl (qa rfl (zp1 rfl (qa rfl (zl 0 2 h rfl (qa rfl ?_)))))
      obtain ⟨r7, hr7, hF⟩ := qd hF
      refine qq r7 h call82 (qdo ⟨_, _, rfl, (h.oldS s3)⟩ hr7) rfl rfl rfl rfl ?_
      intro w8 h
      refine zp2 rfl ?_
      by_cases hc6 : r7 = true
      ·replace hF := bifT hc6 hF
       refine qE hc6 (t := 39) rfl (qa rfl (zp1 rfl (qa rfl (zl 0 3 h rfl (qa rfl ?_)))))
       obtain ⟨r8, hr8, hF⟩ := qd hF
       refine qY r8 h call79 (qco ⟨_, _, rfl, (h.oldS s4)⟩ hr8) rfl rfl rfl rfl ?_
       intro w9 h
       refine qa rfl (zp1 rfl (qa rfl (zp3 rfl ?_)))
       by_cases hc7 : (r8 == sinks) = true
       ·replace hF := bifT hc7 hF
        refine qE hc7 (t := 46) rfl (qa rfl (zp1 rfl (qa rfl (zl 0 3 h rfl (qa rfl (zp1 rfl (qa rfl (zp1 rfl (qa rfl ?_)))))))))
        obtain ⟨r9, hr9, hF⟩ := qd hF
        refine qq r9 h call82 (qdo ⟨_, _, rfl, (h.oldS s4)⟩ hr9) rfl rfl rfl rfl ?_
        intro w10 h
        exact zp2 rfl (qb (qx qc h hF ⟨rfl, trivial⟩))
       replace hc7 := zb hc7
       replace hF := bifF hc7 hF
       exact qD hc7 (t := 46) rfl (zn5 rfl (zp2 rfl (qb (qx qc h hF ⟨rfl, trivial⟩))))
      replace hc6 := zb hc6
      replace hF := bifF hc6 hF
      refine qD hc6 (t := 39) rfl (zn5 rfl (zp2 rfl (zn4 rfl ?_)))
      exact zn1 rfl (zp2 rfl (qb (qx qc h hF ⟨rfl, trivial⟩)))
     replace hc5 := zb hc5
     replace hF := bifF hc5 hF
     refine qD hc5 (t := 34) rfl (zn3 rfl (zp2 rfl (zn5 rfl (zp1 rfl ?_))))
     exact zp1 rfl (zn5 rfl (zp2 rfl (qb (qx qc h hF ⟨rfl, trivial⟩))))
    replace hc4 := zb hc4
    replace hF := bifF hc4 hF
    refine qD hc4 (t := 29) rfl (zn3 rfl (zp2 rfl (zn3 rfl (zp2 rfl (zn1 rfl ?_)))))
    refine zn4 rfl (zp2 rfl (zn5 rfl (zp1 rfl ?_)))
    exact zp1 rfl (qb (qx qc h hF ⟨rfl, trivial⟩))
   replace hc3 := zb hc3
   replace hF := bifF hc3 hF
   refine qD hc3 (t := 25) rfl (zn2 rfl (zp2 rfl (zn3 rfl (zp2 rfl (zn2 rfl ?_)))))
   refine zn1 rfl (zp2 rfl (zn5 rfl (zp2 rfl (zn2 rfl ?_))))
   exact zn3 rfl (zp2 rfl (qb (qx qc h hF ⟨rfl, trivial⟩)))
  replace hc2 := zb hc2
  replace hF := bifF hc2 hF
  refine qD hc2 (t := 18) rfl (zn5 rfl (zp2 rfl (zn2 rfl (zp2 rfl ?_))))
  refine zn3 rfl (zp2 rfl (zn3 rfl (zp2 rfl (zn2 rfl ?_))))
  refine zn3 rfl (zp2 rfl (zn5 rfl (zp2 rfl ?_)))
  exact qb (qx qc h hF ⟨rfl, trivial⟩)
 replace hc1 := zb hc1
 replace hF := bifF hc1 hF
 refine qD hc1 (t := 11) rfl (zn5 rfl (zp2 rfl (zn4 rfl ?_)))
 refine zn1 rfl (zp2 rfl (zn2 rfl (zp2 rfl (zn3 rfl (zp2 rfl ?_)))))
 refine zn3 rfl (zp2 rfl (zn5 rfl (zp2 rfl ?_)))
 exact zn5 rfl (zp2 rfl (qb (qx qc h hF ⟨rfl, trivial⟩)))

def qcL (b : qC) (x2 : (List Int)) : Nat → Int → Option (Flow Bool Int)
 | 0, _ => none
 | n + 1, i2 =>
  bif decide (i2 < (b.Wires.length : Int)) then
   (idx b.Wires i2).bind fun y4 =>
   (idx x2 i2).bind fun y5 =>
   (qhm n y4 y5).bind fun r2 =>
   bif (!r2) then
    some (.ret false)
   else
    qcL b x2 n (W64 (i2 + 1))
  else
   some (.nxt i2)

def qbK (r1 : (List Tplace)) : Nat → (List Int) → Int → Option ((List Int) × Int)
 | 0, _, _ => none
 | n + 1, x2, i1 =>
  bif decide (i1 < (r1.length : Int)) then
   (idx r1 i1).bind fun y1 =>
   bif (!y1.drives) then
    (idx x2 y1.net).bind fun y2 =>
    (idx x2 y1.net).bind fun _ =>
    qbK r1 n (setS x2 y1.net (W64 (y2 + 1))) (W64 (i1 + 1))
   else
    qbK r1 n x2 (W64 (i1 + 1))
  else
   some (x2, i1)

def qgw (n : Nat) (b : qC) : Option Bool :=
 (
  (qfO n (⟨b.Library.Cells⟩ : qn) (⟨b.Design.Instances, b.Design.Nets, b.Design.Ports⟩ : qg)).bind fun r3 =>
  bif (!r3) then
   some true
  else
   some ((b.Wires.length : Int) != (b.Design.Nets.length : Int))).bind fun b1 =>
 bif b1 then
  some false
 else
  (mkS (b.Wires.length : Int) (0 : Int)).bind fun x1 =>
  (qbH n (⟨b.Design.Instances, b.Design.Nets, b.Design.Ports⟩ : qg)).bind fun r1 =>
  (qbK r1 n x1 0).bind fun o => match o with
  | (x2, _) =>
   (qcL b x2 n 0).bind fun o => match o with
   | .ret r => some r
   | .nxt _ =>
    some true

theorem qk7 {n : Nat} {w : World} {b : qC} {cs1 : List Value} (ha1 : GoT.R w (old w) b cs1) {r : Bool} (hF : qgw n b = some r) : RetV Tryz.prog 39 [GoT.v qC cs1] w r := by
 obtain ⟨p1, k1, p2, k2, p3, k3, p4, k4, p5, k5, rfl, s1, s2, s3, s4, s5⟩ := qav ha1
 refine qe Tryz.func39 rfl (m := 63) rfl rfl (fun h => ?_)
 rw [qgw] at hF
 refine zSR (qO h rfl rfl ?_)
 intro w1 bb1 h
 refine zp1 rfl (zNSS ?_)
 obtain ⟨KF1, hKF1, o3, hF, hK3⟩ := bindE hF
 refine qen (fun e w' => ∃ (b1 : Bool), KF1 b1 = some r ∧ e = [(1, .pointer (some ⟨bb1, 0, none⟩)), (23, .bool b1)] ∧ SH w w' [Ch.box bb1 [.slice p1 b.Library.Cells.length k1, .slice p2 b.Design.Instances.length k2, .slice p3 b.Design.Nets.length k3, .slice p4 b.Design.Ports.length k4, .slice p5 b.Wires.length k5] 48]) ?_ ?_
 ·refine qB (zp1 rfl (zl 0 0 h rfl (zp1 rfl (zl 0 1 h rfl ?_))))
  obtain ⟨r3, hr8, hF⟩ := qd hF
  refine qq r3 h call75 (qko (qc8 (⟨b.Library.Cells⟩ : qn) (h.oldS s1)) (qaW (⟨b.Design.Instances, b.Design.Nets, b.Design.Ports⟩ : qg) (h.oldS s2) (h.oldS s3) (h.oldS s4)) hr8) rfl rfl rfl rfl ?_
  intro w12 h
  refine zp2 rfl ?_
  by_cases hc11 : (!r3) = true
  ·replace hF := bifT hc11 hF
   refine qE hc11 (t := 14) rfl (zn5 rfl (zn3 rfl (zp1 rfl (qb ?_))))
   obtain rfl := qh hF
   exact qy [(1, _), (23, _)] ⟨rfl, rfl, trivial⟩ ⟨_, hK3, rfl, h⟩
  replace hc11 := zb hc11
  replace hF := bifF hc11 hF
  refine qD hc11 (t := 14) rfl (qa rfl (zp1 rfl (qa rfl (zl 0 4 h rfl (qa rfl (zp1 rfl (qa rfl (zp1 rfl (qa rfl (zp1 rfl (qa rfl ?_)))))))))))
  refine zl 0 2 h rfl (qa rfl (zp1 rfl (qa rfl (zp2 rfl (qb ?_)))))
  obtain rfl := qh hF
  exact qy [(1, _), (23, _)] ⟨rfl, rfl, trivial⟩ ⟨_, hK3, rfl, h⟩
 rintro e3 w13 ⟨b1, hF, rfl, h⟩
 subst hKF1
 refine qt rfl hF ?_ ?_ <;> intro hF
 ·exact zSR (zp1 rfl (qb (qx qc h hF ⟨rfl, trivial⟩)))
 refine zKSR (zp1 rfl (zl 0 4 h rfl (zp1 rfl ?_)))
 obtain ⟨x1, hx1, hF⟩ := qd hF
 obtain ⟨g1, g2, hx1⟩ := qdB hx1
 refine qeq qc Int h rfl rfl rfl rfl rfl rfl rfl rfl rfl g1 g2 hx1 rfl ?_
 intro w2 S1 p6 h
 refine zp1 rfl (zNSSR (zp1 rfl (zl 1 1 h rfl ?_)))
 obtain ⟨r1, hr1, hF⟩ := qd hF
 refine qaz r1 h call76 (qdV (qaW (⟨b.Design.Instances, b.Design.Nets, b.Design.Ports⟩ : qg) (h.oldS s2) (h.oldS s3) (h.oldS s4)) hr1) rfl rfl rfl rfl ?_
 intro w3 S2 p7 k6 h
 refine zp2 rfl (qb ?_)
 obtain ⟨o1, hF, hK1⟩ := qd hF
 refine qw (qS [(1, _), (3, _), (30, _), (31, _), (32, _)] ⟨rfl, rfl, rfl, rfl, rfl, trivial⟩ ?_)
 refine qF (fun m e w' => ∃ (x2 : (List Int)) (i1 : Int), qbK r1 m x2 i1 = some o1 ∧ e = [(1, .pointer (some ⟨bb1, 0, none⟩)), (3, .slice p6 x1.length x1.length), (30, .slice p7 r1.length k6), (31, .int .i64 (r1.length : Int)), (32, .int .i64 i1)] ∧ SH w w' [Ch.own S2 (r1 : List Tplace) [.slice p7 r1.length k6], Ch.own S1 (x2 : List Int) [.slice p6 x1.length x1.length], Ch.box bb1 [.slice p1 b.Library.Cells.length k1, .slice p2 b.Design.Instances.length k2, .slice p3 b.Design.Nets.length k3, .slice p4 b.Design.Ports.length k4, .slice p5 b.Wires.length k5] 48]) n ⟨_, _, hF, rfl, h⟩ ?_
 rintro m1 e1 w4 ⟨x2, i1, hF, rfl, h⟩
 rcases m1 with _ | m1
 ·rw [qbK] at hF
  cases hF
 rw [qbK] at hF
 refine zSR (zp1 rfl (zNS ?_))
 refine qt rfl hF ?_ ?_ <;> intro hF
 ·refine zKSBSR ?_
  obtain ⟨y1, hy1, hF⟩ := qd hF
  have he1 := qf hy1
  obtain ⟨b2, o_1, q1, cs2, hp1, hq1, -, hr2, hc3⟩ := (h.sl 0 rfl).1.at hy1
  obtain rfl := qdf hr2
  refine zx hp1 hq1 ⟨he1.1, qaa he1.2.1 (h.sl 0 rfl).2⟩ rfl (zc 0 hc3 rfl (qX qc h rfl rfl rfl ?_))
  intro w5 bb2 h
  refine zs 0 h rfl ?_
  intro w6 h
  refine zNSR (zp1 rfl (zl 0 3 h rfl (zp1 rfl (qb ?_))))
  refine qt rfl hF ?_ ?_ <;> intro hF
  ·refine qB (zp2 rfl (zl 0 2 h rfl ?_))
   obtain ⟨y2, hy2, hF⟩ := qd hF
   have he2 := qf hy2
   obtain ⟨b3, o_2, q2, cs3, hp2, hq2, -, hr3, hc5⟩ := (h.sl 2 rfl).1.at hy2
   obtain rfl := hr3
   refine zx hp2 hq2 ⟨he2.1, qaa he2.2.1 (h.sl 2 rfl).2⟩ rfl (zc 0 hc5 rfl (zp1 rfl ?_))
   obtain ⟨y3, hy3, hF⟩ := qd hF
   have he3 := qf hy3
   obtain ⟨b4, o_3, q3, cs4, hp3, hq3, -, hr4, hc6⟩ := (h.sl 2 rfl).1.at hy3
   obtain rfl := hr4
   refine zx hp3 hq3 ⟨he3.1, qaa he3.2.1 (h.sl 2 rfl).2⟩ rfl (qcD qc 2 0 (W64 (y2 + 1)) h rfl hy3 hp3 hq3 rfl hc6 rfl rfl rfl rfl rfl rfl rfl ?_)
   intro w7 h
   refine zNER (zp2 rfl (qb ?_))
   replace h := h.pick [1, 2, 3] rfl
   exact qz m1 [(1, _), (3, _), (30, _), (31, _), (32, _)] (Nat.lt_succ_self m1) ⟨rfl, rfl, rfl, rfl, rfl, trivial⟩ ⟨_, _, hF, rfl, h⟩
  refine zKER (zp2 rfl (qb ?_))
  replace h := h.pick [1, 2, 3] rfl
  exact qz m1 [(1, _), (3, _), (30, _), (31, _), (32, _)] (Nat.lt_succ_self m1) ⟨rfl, rfl, rfl, rfl, rfl, trivial⟩ ⟨_, _, hF, rfl, h⟩
 refine qG rfl ?_
 obtain rfl := qh hF; replace hF := hK1
 refine zSSR (zp1 rfl (zl 2 4 h rfl (zp2 rfl (qb ?_))))
 obtain ⟨o2, hF, hK2⟩ := qd hF
 refine qw ?_
 replace h := h.pick [1] rfl
 refine qS [(3, _), (48, _), (49, _), (50, _)] ⟨rfl, rfl, rfl, rfl, trivial⟩ ?_
 refine qF (fun m e w' => ∃ (i2 : Int), qcL b x2 m i2 = some o2 ∧ e = [(3, .slice p6 x1.length x1.length), (48, .slice p5 b.Wires.length k5), (49, .int .i64 (b.Wires.length : Int)), (50, .int .i64 i2)] ∧ SH w w' [Ch.own S1 (x2 : List Int) [.slice p6 x1.length x1.length]]) n ⟨_, hF, rfl, h⟩ ?_
 rintro m2 e2 w8 ⟨i2, hF, rfl, h⟩
 rcases m2 with _ | m2
 ·rw [qcL] at hF
  cases hF
 rw [qcL] at hF
 refine zSR (zp1 rfl (zNS ?_))
 refine qt rfl hF ?_ ?_ <;> intro hF
 ·refine zKSBSR (zp1 rfl ?_)
  obtain ⟨y4, hy4, hF⟩ := qd hF
  have he4 := qf hy4
  obtain ⟨b5, o_4, q4, cs5, hp4, hq4, -, hr5, hc8⟩ := s5.at hy4
  obtain ⟨p8, k7, p9, k8, p10, k9, p11, k10, rfl, s6, s7, s8, s9⟩ := qbl hr5
  refine zxe hp4 hq4 he4 rfl (zc 0 (hc8.below h.below) rfl (qX qc h rfl rfl rfl ?_))
  intro w9 bb3 h
  refine zp1 rfl (zs 0 h rfl ?_)
  intro w10 h
  replace h : SH _ _ [Ch.box bb3 [.slice p8 y4.Parent.length k7, .slice p9 y4.Res.length k8, .slice p10 y4.Cap.length k9, .slice p11 y4.Sink.length k10] 117, Ch.own S1 (x2 : List Int) [.slice p6 x1.length x1.length]] := h
  refine zNS ?_
  refine qcY rfl (by kernel_rfl) ?_
  refine zdl 0 0 h rfl ?_
  refine zd2 rfl ?_
  obtain ⟨y5, hy5, hF⟩ := qd hF
  have he5 := qf hy5
  obtain ⟨b6, o_5, q5, cs6, hp5, hq5, -, hr6, hc9⟩ := (h.sl 1 rfl).1.at hy5
  obtain rfl := hr6
  refine zdx hp5 hq5 ⟨he5.1, qaa he5.2.1 (h.sl 1 rfl).2⟩ rfl ?_
  refine zdc 0 hc9 rfl ?_
  obtain ⟨r2, hr7, hF⟩ := qd hF
  refine qdc r2 (vsB _) call77 (fun _ hb => qls (qhI y4 ((h.ext hb).oldS s6) ((h.ext hb).oldS s7) ((h.ext hb).oldS s8) ((h.ext hb).oldS s9)) hr7) rfl rfl rfl rfl ?_
  refine zd1 rfl ?_
  refine qbe (fun w11 hb => ?_)
  replace h := h.ext hb
  clear hb
  refine qt rfl hF ?_ ?_ <;> intro hF
  ·refine zSR (zp1 rfl (qb ?_))
   obtain rfl := qh hF; replace hF := hK2
   exact qx qc h hF ⟨rfl, trivial⟩
  refine zKER (zp2 rfl (qb ?_))
  replace h := h.pick [1] rfl
  exact qz m2 [(3, _), (48, _), (49, _), (50, _)] (Nat.lt_succ_self m2) ⟨rfl, rfl, rfl, rfl, trivial⟩ ⟨_, hF, rfl, h⟩
 refine qG rfl ?_
 obtain rfl := qh hF; replace hF := hK2
 exact zSR (zp1 rfl (qb (qx qc h hF ⟨rfl, trivial⟩)))

end Go.Fw


namespace Go.Fw
open Go

def qa2 (a : (List Int)) : Nat := a.length
theorem qec {a : (List Int)} (h : (rngL rngI) a) (w : qa2 a ≤ 1048576) : (okL okI) a :=
  ⟨by simp only [qa2] at w; omega, fun x hx => h.2 x hx⟩
def qgk (x : qA) : Prop := (rngL rngI) x.Slews ∧ (rngL rngI) x.Loads ∧ (rngL rngI) x.Values
def qdF (x : qA) : Nat := qa2 x.Slews + qa2 x.Loads + qa2 x.Values
structure qgM (x : qA) : Prop where
  Slews : (okL okI) x.Slews
  Loads : (okL okI) x.Loads
  Values : (okL okI) x.Values
theorem qn4 {x : qA} (h : qgk x) (w : qdF x ≤ 1048576) : qgM x := ⟨qec (h.1) (by simp only [qdF] at w; omega), qec (h.2.1) (by simp only [qdF] at w; omega), qec (h.2.2) (by simp only [qdF] at w; omega)⟩
def qcX (a : (List qA)) : Nat := a.length + (a.map fun x => qdF x).sum
theorem qkI {a : (List qA)} (h : (rngL qgk) a) (w : qcX a ≤ 1048576) : (okL qgM) a :=
  ⟨by simp only [qcX] at w; omega, fun x hx => qn4 (h.2 x hx) (by have := qcZ (wt := fun x : qA => qdF x) hx; simp only [qcX] at w; omega)⟩
def qiz (x : qT) : Prop := rngI x.Kind ∧ rngI x.From ∧ rngI x.To ∧ rngI x.Sense ∧ (rngL qgk) x.Delay ∧ (rngL qgk) x.Slew
def qgV (x : qT) : Nat := qcX x.Delay + qcX x.Slew
structure qjP (x : qT) : Prop where
  Kind : okI x.Kind
  From : okI x.From
  To : okI x.To
  Sense : okI x.Sense
  Delay : (okL qgM) x.Delay
  Slew : (okL qgM) x.Slew
theorem qpj {x : qT} (h : qiz x) (w : qgV x ≤ 1048576) : qjP x := ⟨h.1, h.2.1, h.2.2.1, h.2.2.2.1, qkI (h.2.2.2.2.1) (by simp only [qgV] at w; omega), qkI (h.2.2.2.2.2) (by simp only [qgV] at w; omega)⟩
theorem qe2 {a : (List Int)} (h : qa2 a ≤ 1048576) : Ev (fun n => qaL n a a) true := by
  have hl : a.length ≤ 1048576 := by simp only [qa2] at h; omega
  unfold qaL
  exact Ev.ff (by simp) (Ev.bind (b := .nxt (a.length : Int)) (qhy (eqf := fun _ x y => some (!(x != y))) (fun x _ => Ev.now (by simp))
    (fun n => by simp only [qc0, qu (Nat.le_refl _), cond_false])
    (fun n j x hx => by
      have hj := (List.getElem?_eq_some_iff.1 hx).1
      simp only [qc0, qr hj, cond_true, qat hx, Option.bind_some, Bool.not_not, qp (show j < 9223372036854775807 by omega)])) .done)

theorem qpQ {a : qA} (h : qdF a ≤ 1048576) : Ev (fun n => qfy n a a) true := by
  unfold qfy
  simp only [qdF] at h
  exact Ev.bind (qe2 (a := a.Slews) (by omega)) (Ev.ff rfl (Ev.bind (qe2 (a := a.Loads) (by omega)) (Ev.ff rfl (Ev.bind (qe2 (a := a.Values) (by omega)) (Ev.ff rfl (.done))))))

theorem qmj {a : (List qA)} (h : qcX a ≤ 1048576) : Ev (fun n => qe8 n a a) true := by
  have hl : a.length ≤ 1048576 := by simp only [qcX] at h; omega
  unfold qe8
  exact Ev.ff (by simp) (Ev.bind (b := .nxt (a.length : Int)) (qhy (eqf := qfy) (fun x hx => qpQ (by have := qcZ (wt := fun x : qA => qdF x) hx; simp only [qcX] at h; omega))
    (fun n => by simp only [qc1, qu (Nat.le_refl _), cond_false])
    (fun n j x hx => by
      have hj := (List.getElem?_eq_some_iff.1 hx).1
      simp only [qc1, qr hj, cond_true, qat hx, Option.bind_some, qp (show j < 9223372036854775807 by omega)])) .done)

theorem qqQ {a : qT} (h : qgV a ≤ 1048576) : Ev (fun n => qgW n a a) true := by
  unfold qgW
  simp only [qgV] at h
  exact Ev.ff qb2 (Ev.ff qb2 (Ev.ff qb2 (Ev.ff qb2 (Ev.bind (qmj (a := a.Delay) (by omega)) (Ev.ff rfl (Ev.bind (qmj (a := a.Slew) (by omega)) (Ev.ff rfl (.done))))))))

def qfK (a : (List qT)) : Nat := a.length + (a.map fun x => qgV x).sum
theorem qo2 {a : (List qT)} (h : (rngL qiz) a) (w : qfK a ≤ 1048576) : (okL qjP) a :=
  ⟨by simp only [qfK] at w; omega, fun x hx => qpj (h.2 x hx) (by have := qcZ (wt := fun x : qT => qgV x) hx; simp only [qfK] at w; omega)⟩
theorem qqx {a : (List qT)} (h : qfK a ≤ 1048576) : Ev (fun n => qhh n a a) true := by
  have hl : a.length ≤ 1048576 := by simp only [qfK] at h; omega
  unfold qhh
  exact Ev.ff (by simp) (Ev.bind (b := .nxt (a.length : Int)) (qhy (eqf := qgW) (fun x hx => qqQ (by have := qcZ (wt := fun x : qT => qgV x) hx; simp only [qfK] at h; omega))
    (fun n => by simp only [qdO, qu (Nat.le_refl _), cond_false])
    (fun n j x hx => by
      have hj := (List.getElem?_eq_some_iff.1 hx).1
      simp only [qdO, qr hj, cond_true, qat hx, Option.bind_some, qp (show j < 9223372036854775807 by omega)])) .done)

def qiy (x : qae) : Prop := rngS x.Name ∧ rngI x.Dir ∧ rngI x.Cap ∧ rngB x.Clock
def qiL (x : qae) : Nat := x.Name.size
structure qi8 (x : qae) : Prop where
  Name : okS x.Name
  Dir : okI x.Dir
  Cap : okI x.Cap
  Clock : okT x.Clock
theorem qpJ {x : qae} (h : qiy x) (w : qiL x ≤ 1048576) : qi8 x := ⟨(by unfold okS; simp only [qiL] at w; omega), h.2.1, h.2.2.1, trivial⟩
def qfM (a : (List qae)) : Nat := a.length + (a.map fun x => qiL x).sum
theorem qpc {a : (List qae)} (h : (rngL qiy) a) (w : qfM a ≤ 1048576) : (okL qi8) a :=
  ⟨by simp only [qfM] at w; omega, fun x hx => qpJ (h.2 x hx) (by have := qcZ (wt := fun x : qae => qiL x) hx; simp only [qfM] at w; omega)⟩
def qhN (x : qv) : Prop := rngS x.Name ∧ rngI x.Kind ∧ (rngL qiy) x.Pins ∧ (rngL qiz) x.Arcs ∧ (rngL rngI) x.Truth ∧ rngI x.Leak ∧ rngI x.Energy
def qeu (x : qv) : Nat := x.Name.size + qfM x.Pins + qfK x.Arcs + qa2 x.Truth
structure qjl (x : qv) : Prop where
  Name : okS x.Name
  Kind : okI x.Kind
  Pins : (okL qi8) x.Pins
  Arcs : (okL qjP) x.Arcs
  Truth : (okL okI) x.Truth
  Leak : okI x.Leak
  Energy : okI x.Energy
theorem qpe {x : qv} (h : qhN x) (w : qeu x ≤ 1048576) : qjl x := ⟨(by unfold okS; simp only [qeu] at w; omega), h.2.1, qpc (h.2.2.1) (by simp only [qeu] at w; omega), qo2 (h.2.2.2.1) (by simp only [qeu] at w; omega), qec (h.2.2.2.2.1) (by simp only [qeu] at w; omega), h.2.2.2.2.2.1, h.2.2.2.2.2.2⟩
def qeL (a : (List qv)) : Nat := a.length + (a.map fun x => qeu x).sum
theorem qoi {a : (List qv)} (h : (rngL qhN) a) (w : qeL a ≤ 1048576) : (okL qjl) a :=
  ⟨by simp only [qeL] at w; omega, fun x hx => qpe (h.2 x hx) (by have := qcZ (wt := fun x : qv => qeu x) hx; simp only [qeL] at w; omega)⟩
def qia (x : qn) : Prop := (rngL qhN) x.Cells
def qe1 (x : qn) : Nat := qeL x.Cells
structure qf8 (x : qn) : Prop where
  Cells : (okL qjl) x.Cells
theorem qm2 {x : qn} (h : qia x) (w : qe1 x ≤ 1048576) : qf8 x := ⟨qoi (h) (by simp only [qe1] at w; omega)⟩
def qeK (x : ql) : Prop := rngS x.Name ∧ rngI x.Cell ∧ (rngL rngI) x.Nets
def qbw (x : ql) : Nat := x.Name.size + qa2 x.Nets
structure qiZ (x : ql) : Prop where
  Name : okS x.Name
  Cell : okI x.Cell
  Nets : (okL okI) x.Nets
theorem qlV {x : ql} (h : qeK x) (w : qbw x ≤ 1048576) : qiZ x := ⟨(by unfold okS; simp only [qbw] at w; omega), h.2.1, qec (h.2.2) (by simp only [qbw] at w; omega)⟩
def qbF (a : (List ql)) : Nat := a.length + (a.map fun x => qbw x).sum
theorem qlo {a : (List ql)} (h : (rngL qeK) a) (w : qbF a ≤ 1048576) : (okL qiZ) a :=
  ⟨by simp only [qbF] at w; omega, fun x hx => qlV (h.2 x hx) (by have := qcZ (wt := fun x : ql => qbw x) hx; simp only [qbF] at w; omega)⟩
def qdI (a : (List ByteArray)) : Nat := a.length + (a.map fun x => x.size).sum
theorem qmR {a : (List ByteArray)} (_ : (rngL rngS) a) (w : qdI a ≤ 1048576) : (okL okS) a :=
  ⟨by simp only [qdI] at w; omega, fun x hx => (by unfold okS; have := qcZ (wt := fun x : ByteArray => x.size) hx; simp only [qdI] at w; omega)⟩
def qhR (x : qW) : Prop := rngS x.Name ∧ rngI x.Dir ∧ rngI x.Net
def qht (x : qW) : Nat := x.Name.size
structure qmJ (x : qW) : Prop where
  Name : okS x.Name
  Dir : okI x.Dir
  Net : okI x.Net
theorem qpb {x : qW} (h : qhR x) (w : qht x ≤ 1048576) : qmJ x := ⟨(by unfold okS; simp only [qht] at w; omega), h.2.1, h.2.2⟩
def qeJ (a : (List qW)) : Nat := a.length + (a.map fun x => qht x).sum
theorem qoe {a : (List qW)} (h : (rngL qhR) a) (w : qeJ a ≤ 1048576) : (okL qmJ) a :=
  ⟨by simp only [qeJ] at w; omega, fun x hx => qpb (h.2 x hx) (by have := qcZ (wt := fun x : qW => qht x) hx; simp only [qeJ] at w; omega)⟩
def qiI (x : qg) : Prop := (rngL qeK) x.Instances ∧ (rngL rngS) x.Nets ∧ (rngL qhR) x.Ports
def qeY (x : qg) : Nat := qbF x.Instances + qdI x.Nets + qeJ x.Ports
structure qhG (x : qg) : Prop where
  Instances : (okL qiZ) x.Instances
  Nets : (okL okS) x.Nets
  Ports : (okL qmJ) x.Ports
theorem qnx {x : qg} (h : qiI x) (w : qeY x ≤ 1048576) : qhG x := ⟨qlo (h.1) (by simp only [qeY] at w; omega), qmR (h.2.1) (by simp only [qeY] at w; omega), qoe (h.2.2) (by simp only [qeY] at w; omega)⟩
def qhS (x : qQ) : Prop := (rngL rngI) x.Parent ∧ (rngL rngI) x.Res ∧ (rngL rngI) x.Cap ∧ (rngL rngI) x.Sink
def qeC (x : qQ) : Nat := qa2 x.Parent + qa2 x.Res + qa2 x.Cap + qa2 x.Sink
structure qke (x : qQ) : Prop where
  Parent : (okL okI) x.Parent
  Res : (okL okI) x.Res
  Cap : (okL okI) x.Cap
  Sink : (okL okI) x.Sink
theorem qoS {x : qQ} (h : qhS x) (w : qeC x ≤ 1048576) : qke x := ⟨qec (h.1) (by simp only [qeC] at w; omega), qec (h.2.1) (by simp only [qeC] at w; omega), qec (h.2.2.1) (by simp only [qeC] at w; omega), qec (h.2.2.2) (by simp only [qeC] at w; omega)⟩
def qeR (a : (List qQ)) : Nat := a.length + (a.map fun x => qeC x).sum
theorem qot {a : (List qQ)} (h : (rngL qhS) a) (w : qeR a ≤ 1048576) : (okL qke) a :=
  ⟨by simp only [qeR] at w; omega, fun x hx => qoS (h.2 x hx) (by have := qcZ (wt := fun x : qQ => qeC x) hx; simp only [qeR] at w; omega)⟩
def qjr (x : qC) : Prop := qia x.Library ∧ qiI x.Design ∧ (rngL qhS) x.Wires
def qe9 (x : qC) : Nat := qe1 x.Library + qeY x.Design + qeR x.Wires
structure qgU (x : qC) : Prop where
  Library : qf8 x.Library
  Design : qhG x.Design
  Wires : (okL qke) x.Wires
theorem qov {x : qC} (h : qjr x) (w : qe9 x ≤ 1048576) : qgU x := ⟨qm2 (h.1) (by simp only [qe9] at w; omega), qnx (h.2.1) (by simp only [qe9] at w; omega), qot (h.2.2) (by simp only [qe9] at w; omega)⟩
theorem qqX {a : qae} (_ : qiL a ≤ 1048576) : Ev (fun n => qg3 n a a) true := by
  unfold qg3
  exact Ev.ff qhz (Ev.ff qb2 (Ev.ff qb2 (Ev.ff qmT (.done))))

theorem qqt {a : (List qae)} (h : qfM a ≤ 1048576) : Ev (fun n => qhe n a a) true := by
  have hl : a.length ≤ 1048576 := by simp only [qfM] at h; omega
  unfold qhe
  exact Ev.ff (by simp) (Ev.bind (b := .nxt (a.length : Int)) (qhy (eqf := qg3) (fun x hx => qqX (by have := qcZ (wt := fun x : qae => qiL x) hx; simp only [qfM] at h; omega))
    (fun n => by simp only [qdS, qu (Nat.le_refl _), cond_false])
    (fun n j x hx => by
      have hj := (List.getElem?_eq_some_iff.1 hx).1
      simp only [qdS, qr hj, cond_true, qat hx, Option.bind_some, qp (show j < 9223372036854775807 by omega)])) .done)

theorem qp3 {a : qv} (h : qeu a ≤ 1048576) : Ev (fun n => qgb n a a) true := by
  unfold qgb
  simp only [qeu] at h
  exact Ev.ff qhz (Ev.ff qb2 (Ev.bind (qqt (a := a.Pins) (by omega)) (Ev.ff rfl (Ev.bind (qqx (a := a.Arcs) (by omega)) (Ev.ff rfl (Ev.bind (qe2 (a := a.Truth) (by omega)) (Ev.ff rfl (Ev.ff qb2 (Ev.ff qb2 (.done))))))))))

theorem qpX {a : (List qv)} (h : qeL a ≤ 1048576) : Ev (fun n => qgx n a a) true := by
  have hl : a.length ≤ 1048576 := by simp only [qeL] at h; omega
  unfold qgx
  exact Ev.ff (by simp) (Ev.bind (b := .nxt (a.length : Int)) (qhy (eqf := qgb) (fun x hx => qp3 (by have := qcZ (wt := fun x : qv => qeu x) hx; simp only [qeL] at h; omega))
    (fun n => by simp only [qdv, qu (Nat.le_refl _), cond_false])
    (fun n j x hx => by
      have hj := (List.getElem?_eq_some_iff.1 hx).1
      simp only [qdv, qr hj, cond_true, qat hx, Option.bind_some, qp (show j < 9223372036854775807 by omega)])) .done)

theorem qob {a : qn} (h : qe1 a ≤ 1048576) : Ev (fun n => qfn n a a) true := by
  unfold qfn
  simp only [qe1] at h
  exact Ev.bind (qpX (a := a.Cells) (by omega)) (Ev.ff rfl (.done))

theorem qnA {a : ql} (h : qbw a ≤ 1048576) : Ev (fun n => qd1 n a a) true := by
  unfold qd1
  simp only [qbw] at h
  exact Ev.ff qhz (Ev.ff qb2 (Ev.bind (qe2 (a := a.Nets) (by omega)) (Ev.ff rfl (.done))))

theorem qmO {a : (List ql)} (h : qbF a ≤ 1048576) : Ev (fun n => qev n a a) true := by
  have hl : a.length ≤ 1048576 := by simp only [qbF] at h; omega
  unfold qev
  exact Ev.ff (by simp) (Ev.bind (b := .nxt (a.length : Int)) (qhy (eqf := qd1) (fun x hx => qnA (by have := qcZ (wt := fun x : ql => qbw x) hx; simp only [qbF] at h; omega))
    (fun n => by simp only [qbX, qu (Nat.le_refl _), cond_false])
    (fun n j x hx => by
      have hj := (List.getElem?_eq_some_iff.1 hx).1
      simp only [qbX, qr hj, cond_true, qat hx, Option.bind_some, qp (show j < 9223372036854775807 by omega)])) .done)

theorem qos {a : (List ByteArray)} (h : qdI a ≤ 1048576) : Ev (fun n => qfl n a a) true := by
  have hl : a.length ≤ 1048576 := by simp only [qdI] at h; omega
  unfold qfl
  exact Ev.ff (by simp) (Ev.bind (b := .nxt (a.length : Int)) (qhy (eqf := fun _ x y => some (!(x.toList != y.toList))) (fun x _ => Ev.now (by simp))
    (fun n => by simp only [qcy, qu (Nat.le_refl _), cond_false])
    (fun n j x hx => by
      have hj := (List.getElem?_eq_some_iff.1 hx).1
      simp only [qcy, qr hj, cond_true, qat hx, Option.bind_some, Bool.not_not, qp (show j < 9223372036854775807 by omega)])) .done)

theorem qqp {a : qW} (_ : qht a ≤ 1048576) : Ev (fun n => qgh n a a) true := by
  unfold qgh
  exact Ev.ff qhz (Ev.ff qb2 (Ev.ff qb2 (.done)))

theorem qpv {a : (List qW)} (h : qeJ a ≤ 1048576) : Ev (fun n => qgG n a a) true := by
  have hl : a.length ≤ 1048576 := by simp only [qeJ] at h; omega
  unfold qgG
  exact Ev.ff (by simp) (Ev.bind (b := .nxt (a.length : Int)) (qhy (eqf := qgh) (fun x hx => qqp (by have := qcZ (wt := fun x : qW => qht x) hx; simp only [qeJ] at h; omega))
    (fun n => by simp only [qds, qu (Nat.le_refl _), cond_false])
    (fun n j x hx => by
      have hj := (List.getElem?_eq_some_iff.1 hx).1
      simp only [qds, qr hj, cond_true, qat hx, Option.bind_some, qp (show j < 9223372036854775807 by omega)])) .done)

theorem qoQ {a : qg} (h : qeY a ≤ 1048576) : Ev (fun n => qfR n a a) true := by
  unfold qfR
  simp only [qeY] at h
  exact Ev.bind (qmO (a := a.Instances) (by omega)) (Ev.ff rfl (Ev.bind (qos (a := a.Nets) (by omega)) (Ev.ff rfl (Ev.bind (qpv (a := a.Ports) (by omega)) (Ev.ff rfl (.done))))))

theorem qqw {a : qQ} (h : qeC a ≤ 1048576) : Ev (fun n => qgm n a a) true := by
  unfold qgm
  simp only [qeC] at h
  exact Ev.bind (qe2 (a := a.Parent) (by omega)) (Ev.ff rfl (Ev.bind (qe2 (a := a.Res) (by omega)) (Ev.ff rfl (Ev.bind (qe2 (a := a.Cap) (by omega)) (Ev.ff rfl (Ev.bind (qe2 (a := a.Sink) (by omega)) (Ev.ff rfl (.done))))))))

theorem qp0 {a : (List qQ)} (h : qeR a ≤ 1048576) : Ev (fun n => qgQ n a a) true := by
  have hl : a.length ≤ 1048576 := by simp only [qeR] at h; omega
  unfold qgQ
  exact Ev.ff (by simp) (Ev.bind (b := .nxt (a.length : Int)) (qhy (eqf := qgm) (fun x hx => qqw (by have := qcZ (wt := fun x : qQ => qeC x) hx; simp only [qeR] at h; omega))
    (fun n => by simp only [qdr, qu (Nat.le_refl _), cond_false])
    (fun n j x hx => by
      have hj := (List.getElem?_eq_some_iff.1 hx).1
      simp only [qdr, qr hj, cond_true, qat hx, Option.bind_some, qp (show j < 9223372036854775807 by omega)])) .done)

theorem qpT {a : qC} (h : qe9 a ≤ 1048576) : Ev (fun n => qgO n a a) true := by
  unfold qgO
  simp only [qe9] at h
  exact Ev.bind (qob (a := a.Library) (by omega)) (Ev.ff rfl (Ev.bind (qoQ (a := a.Design) (by omega)) (Ev.ff rfl (Ev.bind (qp0 (a := a.Wires) (by omega)) (Ev.ff rfl (.done))))))

theorem qfE {a : (List Int)} {left : Int} (h : (rngL rngI) a) (h0 : 0 ≤ left) (h1 : left ≤ 1048576) : Sz (fun n => qbN n a left) (fun r => r = left - (qa2 a : Int)) :=
  Sz.less h0 h1 (by omega) (by have := h.1; omega) (fun _ => rfl)

theorem qpV {a : qA} {left : Int} (h : qgk a) (h0 : 0 ≤ left) (h1 : left ≤ 1048576) : Sz (fun n => qfw n a left) (fun r => r = left - (qdF a : Int)) := by
  unfold qfw
  obtain ⟨h_0, h_1, h_2⟩ := h
  exact Sz.step (qfE (a := a.Slews) h_0 (by omega) (by omega)) fun r0 p0 q0 => Sz.step (qfE (a := a.Loads) h_1 (by omega) (by omega)) fun r1 p1 q1 => Sz.step (qfE (a := a.Values) h_2 (by omega) (by omega)) fun r2 p2 q2 => Sz.done p2 (by simp only [qdF]; omega)

theorem qmx {a : (List qA)} {left : Int} (h : (rngL qgk) a) (h0 : 0 ≤ left) (h1 : left ≤ 1048576) : Sz (fun n => qfW n a left) (fun r => r = left - (qcX a : Int)) :=
  Sz.list (Lf := qci a) (wt := fun x : qA => qdF x) (el := qfw) h0 h1 h.1 (fun x hx left p q => qpV (h.2 x hx) p q)
    (fun acc n => by simp only [qci, qu (Nat.le_refl _), cond_false])
    (fun acc n j x hx => by
      have hj := (List.getElem?_eq_some_iff.1 hx).1
      have hl := h.1
      simp only [qci, qr hj, cond_true, qat hx, Option.bind_some, qp (show j < 9223372036854775807 by omega)])
    (fun _ => rfl)

theorem qqL {a : qT} {left : Int} (h : qiz a) (h0 : 0 ≤ left) (h1 : left ≤ 1048576) : Sz (fun n => qg2 n a left) (fun r => r = left - (qgV a : Int)) := by
  unfold qg2
  obtain ⟨h_0, h_1, h_2, h_3, h_4, h_5⟩ := h
  exact Sz.step (qmx (a := a.Delay) h_4 (by omega) (by omega)) fun r0 p0 q0 => Sz.step (qmx (a := a.Slew) h_5 (by omega) (by omega)) fun r1 p1 q1 => Sz.done p1 (by simp only [qgV]; omega)

theorem qqr {a : (List qT)} {left : Int} (h : (rngL qiz) a) (h0 : 0 ≤ left) (h1 : left ≤ 1048576) : Sz (fun n => qh3 n a left) (fun r => r = left - (qfK a : Int)) :=
  Sz.list (Lf := qdg a) (wt := fun x : qT => qgV x) (el := qg2) h0 h1 h.1 (fun x hx left p q => qqL (h.2 x hx) p q)
    (fun acc n => by simp only [qdg, qu (Nat.le_refl _), cond_false])
    (fun acc n j x hx => by
      have hj := (List.getElem?_eq_some_iff.1 hx).1
      have hl := h.1
      simp only [qdg, qr hj, cond_true, qat hx, Option.bind_some, qp (show j < 9223372036854775807 by omega)])
    (fun _ => rfl)

theorem qqT {a : qae} {left : Int} (h : qiy a) (h0 : 0 ≤ left) (h1 : left ≤ 1048576) : Sz (fun n => qg5 n a left) (fun r => r = left - (qiL a : Int)) := by
  unfold qg5
  obtain ⟨h_0, h_1, h_2, h_3⟩ := h
  exact Sz.strStep h_0 (by omega) (by omega) fun p0 q0 => Sz.done p0 (by simp only [qiL]; omega)

theorem qql {a : (List qae)} {left : Int} (h : (rngL qiy) a) (h0 : 0 ≤ left) (h1 : left ≤ 1048576) : Sz (fun n => qh9 n a left) (fun r => r = left - (qfM a : Int)) :=
  Sz.list (Lf := qdj a) (wt := fun x : qae => qiL x) (el := qg5) h0 h1 h.1 (fun x hx left p q => qqT (h.2 x hx) p q)
    (fun acc n => by simp only [qdj, qu (Nat.le_refl _), cond_false])
    (fun acc n j x hx => by
      have hj := (List.getElem?_eq_some_iff.1 hx).1
      have hl := h.1
      simp only [qdj, qr hj, cond_true, qat hx, Option.bind_some, qp (show j < 9223372036854775807 by omega)])
    (fun _ => rfl)

theorem qqm {a : qv} {left : Int} (h : qhN a) (h0 : 0 ≤ left) (h1 : left ≤ 1048576) : Sz (fun n => qge n a left) (fun r => r = left - (qeu a : Int)) := by
  unfold qge
  obtain ⟨h_0, h_1, h_2, h_3, h_4, h_5, h_6⟩ := h
  exact Sz.strStep h_0 (by omega) (by omega) fun p0 q0 => Sz.step (qql (a := a.Pins) h_2 (by omega) (by omega)) fun r1 p1 q1 => Sz.step (qqr (a := a.Arcs) h_3 (by omega) (by omega)) fun r2 p2 q2 => Sz.step (qfE (a := a.Truth) h_4 (by omega) (by omega)) fun r3 p3 q3 => Sz.done p3 (by simp only [qeu]; omega)

theorem qpw {a : (List qv)} {left : Int} (h : (rngL qhN) a) (h0 : 0 ≤ left) (h1 : left ≤ 1048576) : Sz (fun n => qhA n a left) (fun r => r = left - (qeL a : Int)) :=
  Sz.list (Lf := qcT a) (wt := fun x : qv => qeu x) (el := qge) h0 h1 h.1 (fun x hx left p q => qqm (h.2 x hx) p q)
    (fun acc n => by simp only [qcT, qu (Nat.le_refl _), cond_false])
    (fun acc n j x hx => by
      have hj := (List.getElem?_eq_some_iff.1 hx).1
      have hl := h.1
      simp only [qcT, qr hj, cond_true, qat hx, Option.bind_some, qp (show j < 9223372036854775807 by omega)])
    (fun _ => rfl)

theorem qnX {a : qn} {left : Int} (h : qia a) (h0 : 0 ≤ left) (h1 : left ≤ 1048576) : Sz (fun n => qfh n a left) (fun r => r = left - (qe1 a : Int)) := by
  unfold qfh
  have h_0 := h
  exact Sz.step (qpw (a := a.Cells) h_0 (by omega) (by omega)) fun r0 p0 q0 => Sz.done p0 (by simp only [qe1]; omega)

theorem qnI {a : ql} {left : Int} (h : qeK a) (h0 : 0 ≤ left) (h1 : left ≤ 1048576) : Sz (fun n => qdZ n a left) (fun r => r = left - (qbw a : Int)) := by
  unfold qdZ
  obtain ⟨h_0, h_1, h_2⟩ := h
  exact Sz.strStep h_0 (by omega) (by omega) fun p0 q0 => Sz.step (qfE (a := a.Nets) h_2 (by omega) (by omega)) fun r1 p1 q1 => Sz.done p1 (by simp only [qbw]; omega)

theorem qmS {a : (List ql)} {left : Int} (h : (rngL qeK) a) (h0 : 0 ≤ left) (h1 : left ≤ 1048576) : Sz (fun n => qfG n a left) (fun r => r = left - (qbF a : Int)) :=
  Sz.list (Lf := qbs a) (wt := fun x : ql => qbw x) (el := qdZ) h0 h1 h.1 (fun x hx left p q => qnI (h.2 x hx) p q)
    (fun acc n => by simp only [qbs, qu (Nat.le_refl _), cond_false])
    (fun acc n j x hx => by
      have hj := (List.getElem?_eq_some_iff.1 hx).1
      have hl := h.1
      simp only [qbs, qr hj, cond_true, qat hx, Option.bind_some, qp (show j < 9223372036854775807 by omega)])
    (fun _ => rfl)

theorem qnY {a : (List ByteArray)} {left : Int} (h : (rngL rngS) a) (h0 : 0 ≤ left) (h1 : left ≤ 1048576) : Sz (fun n => qgP n a left) (fun r => r = left - (qdI a : Int)) :=
  Sz.list (Lf := qb1 a) (wt := fun x : ByteArray => x.size) (el := fun _ (x : ByteArray) acc => some (W64 (acc - (x.size : Int)))) h0 h1 h.1 (fun x hx left p q => Sz.str (h.2 x hx) p q)
    (fun acc n => by simp only [qb1, qu (Nat.le_refl _), cond_false])
    (fun acc n j x hx => by
      have hj := (List.getElem?_eq_some_iff.1 hx).1
      have hl := h.1
      simp only [qb1, qr hj, cond_true, qat hx, Option.bind_some, qp (show j < 9223372036854775807 by omega)])
    (fun _ => rfl)

theorem qp6 {a : qW} {left : Int} (h : qhR a) (h0 : 0 ≤ left) (h1 : left ≤ 1048576) : Sz (fun n => qgi n a left) (fun r => r = left - (qht a : Int)) := by
  unfold qgi
  obtain ⟨h_0, h_1, h_2⟩ := h
  exact Sz.strStep h_0 (by omega) (by omega) fun p0 q0 => Sz.done p0 (by simp only [qht]; omega)

theorem qpt {a : (List qW)} {left : Int} (h : (rngL qhR) a) (h0 : 0 ≤ left) (h1 : left ≤ 1048576) : Sz (fun n => qhE n a left) (fun r => r = left - (qeJ a : Int)) :=
  Sz.list (Lf := qcU a) (wt := fun x : qW => qht x) (el := qgi) h0 h1 h.1 (fun x hx left p q => qp6 (h.2 x hx) p q)
    (fun acc n => by simp only [qcU, qu (Nat.le_refl _), cond_false])
    (fun acc n j x hx => by
      have hj := (List.getElem?_eq_some_iff.1 hx).1
      have hl := h.1
      simp only [qcU, qr hj, cond_true, qat hx, Option.bind_some, qp (show j < 9223372036854775807 by omega)])
    (fun _ => rfl)

theorem qoN {a : qg} {left : Int} (h : qiI a) (h0 : 0 ≤ left) (h1 : left ≤ 1048576) : Sz (fun n => qfU n a left) (fun r => r = left - (qeY a : Int)) := by
  unfold qfU
  obtain ⟨h_0, h_1, h_2⟩ := h
  exact Sz.step (qmS (a := a.Instances) h_0 (by omega) (by omega)) fun r0 p0 q0 => Sz.step (qnY (a := a.Nets) h_1 (by omega) (by omega)) fun r1 p1 q1 => Sz.step (qpt (a := a.Ports) h_2 (by omega) (by omega)) fun r2 p2 q2 => Sz.done p2 (by simp only [qeY]; omega)

theorem qqA {a : qQ} {left : Int} (h : qhS a) (h0 : 0 ≤ left) (h1 : left ≤ 1048576) : Sz (fun n => qgg n a left) (fun r => r = left - (qeC a : Int)) := by
  unfold qgg
  obtain ⟨h_0, h_1, h_2, h_3⟩ := h
  exact Sz.step (qfE (a := a.Parent) h_0 (by omega) (by omega)) fun r0 p0 q0 => Sz.step (qfE (a := a.Res) h_1 (by omega) (by omega)) fun r1 p1 q1 => Sz.step (qfE (a := a.Cap) h_2 (by omega) (by omega)) fun r2 p2 q2 => Sz.step (qfE (a := a.Sink) h_3 (by omega) (by omega)) fun r3 p3 q3 => Sz.done p3 (by simp only [qeC]; omega)

theorem qpE {a : (List qQ)} {left : Int} (h : (rngL qhS) a) (h0 : 0 ≤ left) (h1 : left ≤ 1048576) : Sz (fun n => qhD n a left) (fun r => r = left - (qeR a : Int)) :=
  Sz.list (Lf := qcS a) (wt := fun x : qQ => qeC x) (el := qgg) h0 h1 h.1 (fun x hx left p q => qqA (h.2 x hx) p q)
    (fun acc n => by simp only [qcS, qu (Nat.le_refl _), cond_false])
    (fun acc n j x hx => by
      have hj := (List.getElem?_eq_some_iff.1 hx).1
      have hl := h.1
      simp only [qcS, qr hj, cond_true, qat hx, Option.bind_some, qp (show j < 9223372036854775807 by omega)])
    (fun _ => rfl)

theorem qpn {a : qC} {left : Int} (h : qjr a) (h0 : 0 ≤ left) (h1 : left ≤ 1048576) : Sz (fun n => qgI n a left) (fun r => r = left - (qe9 a : Int)) := by
  unfold qgI
  obtain ⟨h_0, h_1, h_2⟩ := h
  exact Sz.step (qnX (a := a.Library) h_0 (by omega) (by omega)) fun r0 p0 q0 => Sz.step (qoN (a := a.Design) h_1 (by omega) (by omega)) fun r1 p1 q1 => Sz.step (qpE (a := a.Wires) h_2 (by omega) (by omega)) fun r2 p2 q2 => Sz.done p2 (by simp only [qe9]; omega)

theorem qfH {a : (List Int)} (h : qa2 a ≤ 1048576) : Ev (fun n => qbr n a) a := by
  have hl : a.length ≤ 1048576 := by simp only [qa2] at h; omega
  unfold qbr
  exact Ev.bindN (qhb (by omega)) (Ev.bind (b := (a, (a.length : Int))) (qhB (cp := fun _ x => some x) (fun _ _ => .done)
    (fun acc n => by simp only [qc2, qu (Nat.le_refl _), cond_false])
    (fun acc n j x y hx hy => by
      have hj := (List.getElem?_eq_some_iff.1 hx).1
      simp only [qc2, qr hj, cond_true, qat hx, qat hy, Option.bind_some, qp (show j < 9223372036854775807 by omega)])) .done)

theorem qpW {a : qA} (h : qdF a ≤ 1048576) : Ev (fun n => qfv n a) a := by
  unfold qfv
  simp only [qdF] at h
  exact Ev.bind (qfH (a := a.Slews) (by omega)) (Ev.bind (qfH (a := a.Loads) (by omega)) (Ev.bind (qfH (a := a.Values) (by omega)) (.done)))

theorem qmB {a : (List qA)} (h : qcX a ≤ 1048576) : Ev (fun n => qe4 n a) a := by
  have hl : a.length ≤ 1048576 := by simp only [qcX] at h; omega
  unfold qe4
  exact Ev.bindN (qhb (by omega)) (Ev.bind (b := (a, (a.length : Int))) (qhB (cp := qfv) (fun x hx => qpW (by have := qcZ (wt := fun x : qA => qdF x) hx; simp only [qcX] at h; omega))
    (fun acc n => by simp only [qc3, qu (Nat.le_refl _), cond_false])
    (fun acc n j x y hx hy => by
      have hj := (List.getElem?_eq_some_iff.1 hx).1
      simp only [qc3, qr hj, cond_true, qat hx, qat hy, Option.bind_some, qp (show j < 9223372036854775807 by omega)])) .done)

theorem qqY {a : qT} (h : qgV a ≤ 1048576) : Ev (fun n => qgZ n a) a := by
  unfold qgZ
  simp only [qgV] at h
  exact Ev.bind (qmB (a := a.Delay) (by omega)) (Ev.bind (qmB (a := a.Slew) (by omega)) (.done))

theorem qqv {a : (List qT)} (h : qfK a ≤ 1048576) : Ev (fun n => qhc n a) a := by
  have hl : a.length ≤ 1048576 := by simp only [qfK] at h; omega
  unfold qhc
  exact Ev.bindN (qhb (by omega)) (Ev.bind (b := (a, (a.length : Int))) (qhB (cp := qgZ) (fun x hx => qqY (by have := qcZ (wt := fun x : qT => qgV x) hx; simp only [qfK] at h; omega))
    (fun acc n => by simp only [qdQ, qu (Nat.le_refl _), cond_false])
    (fun acc n j x y hx hy => by
      have hj := (List.getElem?_eq_some_iff.1 hx).1
      simp only [qdQ, qr hj, cond_true, qat hx, qat hy, Option.bind_some, qp (show j < 9223372036854775807 by omega)])) .done)

theorem qqR {a : qae} (_ : qiL a ≤ 1048576) : Ev (fun n => qg8 n a) a := by
  unfold qg8
  exact .done

theorem qqf {a : (List qae)} (h : qfM a ≤ 1048576) : Ev (fun n => qhd n a) a := by
  have hl : a.length ≤ 1048576 := by simp only [qfM] at h; omega
  unfold qhd
  exact Ev.bindN (qhb (by omega)) (Ev.bind (b := (a, (a.length : Int))) (qhB (cp := qg8) (fun x hx => qqR (by have := qcZ (wt := fun x : qae => qiL x) hx; simp only [qfM] at h; omega))
    (fun acc n => by simp only [qdM, qu (Nat.le_refl _), cond_false])
    (fun acc n j x y hx hy => by
      have hj := (List.getElem?_eq_some_iff.1 hx).1
      simp only [qdM, qr hj, cond_true, qat hx, qat hy, Option.bind_some, qp (show j < 9223372036854775807 by omega)])) .done)

theorem qqC {a : qv} (h : qeu a ≤ 1048576) : Ev (fun n => qgj n a) a := by
  unfold qgj
  simp only [qeu] at h
  exact Ev.bind (qqf (a := a.Pins) (by omega)) (Ev.bind (qqv (a := a.Arcs) (by omega)) (Ev.bind (qfH (a := a.Truth) (by omega)) (.done)))

theorem qph {a : (List qv)} (h : qeL a ≤ 1048576) : Ev (fun n => qgr n a) a := by
  have hl : a.length ≤ 1048576 := by simp only [qeL] at h; omega
  unfold qgr
  exact Ev.bindN (qhb (by omega)) (Ev.bind (b := (a, (a.length : Int))) (qhB (cp := qgj) (fun x hx => qqC (by have := qcZ (wt := fun x : qv => qeu x) hx; simp only [qeL] at h; omega))
    (fun acc n => by simp only [qdu, qu (Nat.le_refl _), cond_false])
    (fun acc n j x y hx hy => by
      have hj := (List.getElem?_eq_some_iff.1 hx).1
      simp only [qdu, qr hj, cond_true, qat hx, qat hy, Option.bind_some, qp (show j < 9223372036854775807 by omega)])) .done)

theorem qou {a : qn} (h : qe1 a ≤ 1048576) : Ev (fun n => qfq n a) a := by
  unfold qfq
  simp only [qe1] at h
  exact Ev.bind (qph (a := a.Cells) (by omega)) (.done)

theorem qnp {a : ql} (h : qbw a ≤ 1048576) : Ev (fun n => qd2 n a) a := by
  unfold qd2
  simp only [qbw] at h
  exact Ev.bind (qfH (a := a.Nets) (by omega)) (.done)

theorem qmZ {a : (List ql)} (h : qbF a ≤ 1048576) : Ev (fun n => qeG n a) a := by
  have hl : a.length ≤ 1048576 := by simp only [qbF] at h; omega
  unfold qeG
  exact Ev.bindN (qhb (by omega)) (Ev.bind (b := (a, (a.length : Int))) (qhB (cp := qd2) (fun x hx => qnp (by have := qcZ (wt := fun x : ql => qbw x) hx; simp only [qbF] at h; omega))
    (fun acc n => by simp only [qbY, qu (Nat.le_refl _), cond_false])
    (fun acc n j x y hx hy => by
      have hj := (List.getElem?_eq_some_iff.1 hx).1
      simp only [qbY, qr hj, cond_true, qat hx, qat hy, Option.bind_some, qp (show j < 9223372036854775807 by omega)])) .done)

theorem qnS {a : (List ByteArray)} (h : qdI a ≤ 1048576) : Ev (fun n => qfi n a) a := by
  have hl : a.length ≤ 1048576 := by simp only [qdI] at h; omega
  unfold qfi
  exact Ev.bindN (qhb (by omega)) (Ev.bind (b := (a, (a.length : Int))) (qhB (cp := fun _ x => some x) (fun _ _ => .done)
    (fun acc n => by simp only [qcz, qu (Nat.le_refl _), cond_false])
    (fun acc n j x y hx hy => by
      have hj := (List.getElem?_eq_some_iff.1 hx).1
      simp only [qcz, qr hj, cond_true, qat hx, qat hy, Option.bind_some, qp (show j < 9223372036854775807 by omega)])) .done)

theorem qp8 {a : qW} (_ : qht a ≤ 1048576) : Ev (fun n => qgq n a) a := by
  unfold qgq
  exact .done

theorem qpY {a : (List qW)} (h : qeJ a ≤ 1048576) : Ev (fun n => qgF n a) a := by
  have hl : a.length ≤ 1048576 := by simp only [qeJ] at h; omega
  unfold qgF
  exact Ev.bindN (qhb (by omega)) (Ev.bind (b := (a, (a.length : Int))) (qhB (cp := qgq) (fun x hx => qp8 (by have := qcZ (wt := fun x : qW => qht x) hx; simp only [qeJ] at h; omega))
    (fun acc n => by simp only [qdw, qu (Nat.le_refl _), cond_false])
    (fun acc n j x y hx hy => by
      have hj := (List.getElem?_eq_some_iff.1 hx).1
      simp only [qdw, qr hj, cond_true, qat hx, qat hy, Option.bind_some, qp (show j < 9223372036854775807 by omega)])) .done)

theorem qoH {a : qg} (h : qeY a ≤ 1048576) : Ev (fun n => qfX n a) a := by
  unfold qfX
  simp only [qeY] at h
  exact Ev.bind (qmZ (a := a.Instances) (by omega)) (Ev.bind (qnS (a := a.Nets) (by omega)) (Ev.bind (qpY (a := a.Ports) (by omega)) (.done)))

theorem qqD {a : qQ} (h : qeC a ≤ 1048576) : Ev (fun n => qga n a) a := by
  unfold qga
  simp only [qeC] at h
  exact Ev.bind (qfH (a := a.Parent) (by omega)) (Ev.bind (qfH (a := a.Res) (by omega)) (Ev.bind (qfH (a := a.Cap) (by omega)) (Ev.bind (qfH (a := a.Sink) (by omega)) (.done))))

theorem qp2 {a : (List qQ)} (h : qeR a ≤ 1048576) : Ev (fun n => qgv n a) a := by
  have hl : a.length ≤ 1048576 := by simp only [qeR] at h; omega
  unfold qgv
  exact Ev.bindN (qhb (by omega)) (Ev.bind (b := (a, (a.length : Int))) (qhB (cp := qga) (fun x hx => qqD (by have := qcZ (wt := fun x : qQ => qeC x) hx; simp only [qeR] at h; omega))
    (fun acc n => by simp only [qdq, qu (Nat.le_refl _), cond_false])
    (fun acc n j x y hx hy => by
      have hj := (List.getElem?_eq_some_iff.1 hx).1
      simp only [qdq, qr hj, cond_true, qat hx, qat hy, Option.bind_some, qp (show j < 9223372036854775807 by omega)])) .done)

theorem qj7 {a : qC} (h : qe9 a ≤ 1048576) : Ev (fun n => qea n a) a := by
  unfold qea
  simp only [qe9] at h
  exact Ev.bind (qou (a := a.Library) (by omega)) (Ev.bind (qoH (a := a.Design) (by omega)) (Ev.bind (qp2 (a := a.Wires) (by omega)) (.done)))

end Go.Fw


namespace Go.Fw
open Go
set_option maxRecDepth 100000


theorem qeD {n : Nat} {x lo hi : Int} : qaE n x lo hi = some (inI x lo hi) := by
  simp only [qaE, qiP, qkj]; rfl
theorem qdY {n : Nat} {x lo hi : Int} : qa9 n x lo hi = some (inI x lo hi) := by
  simp only [qa9, qiP, qkj]; rfl

/-! ### Names -/

/-- The byte at a place, as a number. -/
def bt (s : ByteArray) (j : Nat) : Nat := (s.data.toList.getD j 0).toNat
theorem qpi {s : ByteArray} {j : Nat} (h : j < s.size) : atS s (j : Int) = some (bt s j : Int) := by
  have h' : j < s.data.size := h
  have hl : j < s.data.toList.length := by simpa using h'
  unfold atS
  rw [if_pos (by omega), Int.toNat_natCast]
  have : s[j]? = some (s.data.toList.getD j 0) := by
    rw [getElem?_pos s j h, List.getD_eq_getElem?_getD, List.getElem?_eq_getElem hl]
    rfl
  rw [this]
  rfl

def letB (b : Nat) : Bool := decide (97 ≤ b) && decide (b ≤ 122)
def digB (b : Nat) : Bool := decide (48 ≤ b) && decide (b ≤ 57)
def chB (s : ByteArray) (j : Nat) : Bool := letB (bt s j) || digB (bt s j) && decide (0 < j)
def nameB (s : ByteArray) : Bool := (decide (1 ≤ s.size) && decide (s.size ≤ 8)) && allN (chB s) s.size

theorem qjU {s : ByteArray} (h : okS s) : Ev (fun n => qeM n s) (nameB s) := by
  unfold okS at h
  have hL : Ev (fun n => qcc s n 0) (bif allN (chB s) s.size then .nxt (s.size : Int) else .ret false) := by
    refine qeT ?_ (fun j hj X hX => ?_)
    · exact Ev.succ (by simp only [qcc, qu (Nat.le_refl _), cond_false]; exact .done)
    · refine Ev.succ ?_
      simp only [qcc, qr hj, cond_true, qpi hj, Option.bind_some, qiP, qkj, qp (show j < 9223372036854775807 by omega)]
      have e1 : (decide ((bt s j : Int) ≥ 97) && decide ((bt s j : Int) ≤ 122)) = letB (bt s j) := by unfold letB; rw [Bool.eq_iff_iff]; simp; omega
      have e2 : (decide ((bt s j : Int) ≥ 48) && decide ((bt s j : Int) ≤ 57)) = digB (bt s j) := by unfold digB; rw [Bool.eq_iff_iff]; simp; omega
      have e3 : decide ((j : Int) > 0) = decide (0 < j) := by rw [Bool.eq_iff_iff]; simp
      rw [e1, e2, e3]
      unfold chB
      cases letB (bt s j) <;> cases digB (bt s j) <;> cases decide (0 < j) <;> first | exact hX | exact .done
  unfold qeM
  refine Ev.cast (r := bif allN (chB s) s.size then (decide (1 ≤ s.size) && decide (s.size ≤ 8)) else false) (Ev.bindB hL (fun _ => ?_) (fun _ => .done)) ?_
  · simp only [qiP, qkj]
    exact Ev.now (by congr 1; rw [Bool.eq_iff_iff]; simp; omega)
  · unfold nameB
    cases allN (chB s) s.size <;> simp

def cutset : List UInt8 := [97, 98, 99, 100, 101, 102, 103, 104, 105, 106, 107, 108, 109, 110, 111, 112, 113, 114, 115, 116, 117, 118, 119, 120, 121, 122, 48, 49, 50, 51, 52, 53, 54, 55, 56, 57]
theorem qlm (b : UInt8) : cutset.contains b = (letB b.toNat || digB b.toNat) := by
  have h0 : (List.range 256).all (fun m => cutset.contains (UInt8.ofNat m) == (letB (UInt8.ofNat m).toNat || digB (UInt8.ofNat m).toNat)) = true := by kernel_rfl
  have h := List.all_eq_true.1 h0 b.toNat (List.mem_range.2 b.toNat_lt)
  rw [beq_iff_eq] at h
  simpa using h
def letters : List UInt8 := [97, 98, 99, 100, 101, 102, 103, 104, 105, 106, 107, 108, 109, 110, 111, 112, 113, 114, 115, 116, 117, 118, 119, 120, 121, 122]
theorem qoj (m : Nat) (hm : m < 256) : decide ((Lib.indexByte letters m.toUInt8) ≥ 0) = letB m := by
  have h0 : (List.range 256).all (fun m => decide ((Lib.indexByte letters m.toUInt8) ≥ 0) == letB m) = true := by kernel_rfl
  have h := List.all_eq_true.1 h0 m (List.mem_range.2 hm)
  rwa [beq_iff_eq] at h

theorem qlY {α : Type} {p : α → Bool} {l : List α} : l.dropWhile p = [] ↔ ∀ x, x ∈ l → p x = true := by
  induction l with
  | nil => simp
  | cons y l ih =>
    rw [List.dropWhile_cons]
    by_cases h : p y = true
    · rw [if_pos h, ih]; simp [h]
    · rw [if_neg h]; simp [h]

theorem ql9 {α : Type} {p : α → Bool} {l : List α} (h : ∀ x, x ∈ l.dropWhile p → p x = true) : ∀ x, x ∈ l → p x = true := by
  induction l with
  | nil => simp
  | cons y l ih =>
    rw [List.dropWhile_cons] at h
    by_cases hy : p y = true
    · rw [if_pos hy] at h
      intro x hx
      rcases List.mem_cons.1 hx with rfl | hx
      · exact hy
      · exact ih h x hx
    · rw [if_neg hy] at h
      exact h

theorem qpU {l cs : List UInt8} : Lib.trimS l cs = [] ↔ ∀ x, x ∈ l → cs.contains x = true := by
  unfold Lib.trimS Lib.trimRightS Lib.trimLeftS
  rw [qlY]
  constructor
  · intro h x hx
    exact ql9 (p := (cs.contains ·)) (l := l.reverse) (fun y hy => h y (List.mem_reverse.2 hy)) x (List.mem_reverse.2 hx)
  · intro h x hx
    exact h x (List.mem_reverse.1 ((List.dropWhile_suffix _).subset (List.mem_reverse.1 hx)))

theorem qf0 {a b : ByteArray} : (a.toList == b.toList) = decide (a = b) := by
  rw [Bool.eq_iff_iff, beq_iff_eq, decide_eq_true_iff]
  constructor
  · intro h
    exact ByteArray.ext (by have := congrArg List.toArray h; simpa [ByteArray.toList_eq] using this)
  · rintro rfl; rfl
end Go.Fw


namespace Go.Fw
open Go
set_option maxRecDepth 100000

theorem qqJ {s : ByteArray} {j : Nat} (h : j < s.data.toList.length) : bt s j = (s.data.toList[j]).toNat := by
  unfold bt; rw [List.getD_eq_getElem?_getD, List.getElem?_eq_getElem h]; rfl
theorem qq0 {s : ByteArray} {j : Nat} : bt s j < 256 := UInt8.toNat_lt _

theorem qmk {n : Nat} {s : ByteArray} (h : okS s) : qgd n s = some (nameB s) := by
  unfold okS at h
  have hl : s.data.toList.length = s.size := by simp
  simp only [qgd, qdY, Option.bind_some]
  cases hI : inI (s.size : Int) 1 8 with
  | false =>
    have hs : (decide (1 ≤ s.size) && decide (s.size ≤ 8)) = false := by rw [qpg] at hI; rw [Bool.and_eq_false_iff, decide_eq_false_iff_not, decide_eq_false_iff_not]; omega
    simp [nameB, hs]
  | true =>
    have hs : 1 ≤ s.size ∧ s.size ≤ 8 := by rw [qcE] at hI; omega
    have hT : qgt n s (⟨#[97, 98, 99, 100, 101, 102, 103, 104, 105, 106, 107, 108, 109, 110, 111, 112, 113, 114, 115, 116, 117, 118, 119, 120, 121, 122, 48, 49, 50, 51, 52, 53, 54, 55, 56, 57]⟩ : ByteArray) = some ⟨(Lib.trimS s.data.toList cutset).toArray⟩ := by
      unfold qgt
      rw [if_pos ⟨by omega, by decide, by decide⟩]
      rfl
    rw [hT]
    simp only [cond_true, Option.bind_some]
    have hE : (((⟨(Lib.trimS s.data.toList cutset).toArray⟩ : ByteArray).toList == (⟨#[]⟩ : ByteArray).toList)) = allN (fun j => letB (bt s j) || digB (bt s j)) s.size := by
      rw [qf0, Bool.eq_iff_iff, decide_eq_true_iff, qa6]
      have : ((⟨(Lib.trimS s.data.toList cutset).toArray⟩ : ByteArray) = ⟨#[]⟩) ↔ Lib.trimS s.data.toList cutset = [] := by
        constructor
        · intro he
          have := congrArg (fun x : ByteArray => x.data.toList) he
          simpa using this
        · intro he; rw [he]
      rw [this, qpU]
      constructor
      · intro hx j hj
        have hj' : j < s.data.toList.length := by omega
        have := hx _ (List.getElem_mem hj')
        rw [qlm, ← qqJ hj'] at this
        exact this
      · intro hx x hm
        obtain ⟨j, hj, rfl⟩ := List.getElem_of_mem hm
        have := hx j (by omega)
        rw [qlm, ← qqJ hj]
        exact this
    rw [hE]
    have h0 : atS s 0 = some (bt s 0 : Int) := qpi (j := 0) (by omega)
    have hI2 : decide (Lib.indexByte letters (bt s 0 : Int).toNat.toUInt8 ≥ 0) = letB (bt s 0) := by
      rw [Int.toNat_natCast]; exact qoj _ qq0
    have hF : ∀ b : Bool, (bif b then (atS s 0).bind fun y1 => (qfc n (⟨#[97, 98, 99, 100, 101, 102, 103, 104, 105, 106, 107, 108, 109, 110, 111, 112, 113, 114, 115, 116, 117, 118, 119, 120, 121, 122]⟩ : ByteArray) (⟨y1⟩ : IntK .u8)).bind fun r3 => some (decide (r3 ≥ 0)) else some false) = some (b && letB (bt s 0)) := by
      intro b
      cases b with
      | false => rfl
      | true =>
        rw [h0]
        simp only [cond_true, Option.bind_some, qfc, Bool.true_and]
        exact congrArg some hI2
    rw [hF]
    congr 1
    have hs' : (decide (1 ≤ s.size) && decide (s.size ≤ 8)) = true := by simp [hs]
    unfold nameB
    rw [hs', Bool.true_and, Bool.eq_iff_iff, Bool.and_eq_true, qa6, qa6]
    simp only [chB, Bool.or_eq_true, Bool.and_eq_true, decide_eq_true_eq]
    constructor
    · rintro ⟨h1, h2⟩ j hj
      rcases Nat.eq_zero_or_pos j with rfl | hp
      · exact .inl h2
      · exact (h1 j hj).imp id (fun h => ⟨h, hp⟩)
    · intro h1
      refine ⟨fun j hj => (h1 j hj).imp id (fun h => h.1), ?_⟩
      rcases h1 0 (by omega) with h2 | h2
      · exact h2
      · omega

/-! ### Lists of names -/

def strAt (xs : List ByteArray) (j : Nat) : ByteArray := xs.getD j ByteArray.empty
theorem qkk {xs : List ByteArray} {j : Nat} (h : j < xs.length) : strAt xs j = xs[j] := by simp [strAt, h]
theorem qlj {xs : List ByteArray} {j : Nat} (h : j < xs.length) : idx xs (j : Int) = some (strAt xs j) := by rw [qfL h, qkk h]
def neB (xs : List ByteArray) (j i : Nat) : Bool := !decide (strAt xs i = strAt xs j)
def namesB (xs : List ByteArray) : Bool := allN (fun j => nameB (strAt xs j) && allN (neB xs j) j) xs.length

theorem qi4 {xs : List ByteArray} (h : okL okS xs) : Ev (fun n => qem n xs) (namesB xs) := by
  have hl := h.len
  have hL2 : ∀ j, j < xs.length → Ev (fun n => qcq xs (j : Int) n 0) (bif allN (neB xs j) j then .nxt (j : Int) else .ret false) := by
    intro j hj
    refine qeT ?_ (fun i hi X hX => Ev.succ ?_)
    · exact Ev.succ (by simp only [qcq, qu (Nat.le_refl _), cond_false]; exact .done)
    · simp only [qcq, qr hi, cond_true, qlj (show i < xs.length by omega), qlj hj, Option.bind_some, qf0, qp (show i < 9223372036854775807 by omega)]
      unfold neB
      cases decide (strAt xs i = strAt xs j)
      · exact hX
      · exact .done
  have hL1 : Ev (fun n => qcj xs n 0) (bif namesB xs then .nxt (xs.length : Int) else .ret false) := by
    refine qeT ?_ (fun j hj X hX => Ev.succ ?_)
    · exact Ev.succ (by simp only [qcj, qu (Nat.le_refl _), cond_false]; exact .done)
    · simp only [qcj, qr hj, cond_true, qlj hj, Option.bind_some, qp (show j < 9223372036854775807 by omega)]
      refine Ev.bind (qjU (by rw [qkk hj]; exact h.at hj)) ?_
      cases nameB (strAt xs j)
      · exact .done
      · refine Ev.ff rfl (Ev.bind (hL2 j hj) ?_)
        cases allN (neB xs j) j
        · exact .done
        · exact hX
  unfold qem
  refine Ev.bind hL1 ?_
  cases namesB xs <;> exact .done

theorem qnM {xs : List ByteArray} {v : ByteArray} (hl : xs.length ≤ 1048576) : Ev (fun n => qdy n xs v) (ixL (fun x => decide (v = x)) xs) :=
  qfp (fin := (xs.length : Int)) (Lf := qa5 xs v) (pf := fun _ x => some (decide (v = x))) (fun _ _ => .done)
    (fun n => by simp only [qa5, qu (Nat.le_refl _), cond_false])
    (fun n j x hx => by
      have hj := (List.getElem?_eq_some_iff.1 hx).1
      simp only [qa5, qr hj, cond_true, qat hx, Option.bind_some, qf0, qp (show j < 9223372036854775807 by omega)])
    (fun n => by unfold qdy; congr 1; funext o; cases o <;> rfl)

theorem qlB {xs : List ByteArray} {v : ByteArray} (hl : xs.length ≤ 1048576) : Ev (fun n => qcF n xs v) (xs.any fun x => decide (v = x)) := by
  unfold qcF
  exact Ev.bind (qnM hl) (Ev.now (by rw [qjc]))

theorem qhf {xs : List ByteArray} (h : okL okS xs) : Ev (fun n => qc7 n xs) (namesB xs) := by
  have hl := h.len
  have hL1 : Ev (fun n => qcr xs n 0) (bif namesB xs then .nxt (xs.length : Int) else .ret false) := by
    refine qeT ?_ (fun j hj X hX => Ev.succ ?_)
    · exact Ev.succ (by simp only [qcr, qu (Nat.le_refl _), cond_false]; exact .done)
    · have hs : subS xs 0 (j : Int) = some (xs.take j) := by
        unfold subS
        rw [if_pos ⟨by omega, by omega, by omega⟩]
        simp
      simp only [qcr, qr hj, cond_true, qlj hj, Option.bind_some, hs, qmk (show okS (strAt xs j) by rw [qkk hj]; exact h.at hj), qp (show j < 9223372036854775807 by omega)]
      cases nameB (strAt xs j)
      · exact .done
      · refine Ev.ff rfl (Ev.bind (qlB (by simp; omega)) ?_)
        have : ((xs.take j).any fun x => decide (strAt xs j = x)) = !allN (neB xs j) j := by
          rw [qna (d := ByteArray.empty)]
          congr 1
          rw [List.length_take, Nat.min_eq_left (by omega)]
          refine qf6 (fun i hi => ?_)
          unfold neB strAt
          congr 1
          have : (xs.take j).getD i ByteArray.empty = xs.getD i ByteArray.empty := by simp [List.getD_eq_getElem?_getD, hi]
          rw [this]
          exact decide_eq_decide.2 eq_comm
        rw [this]
        cases allN (neB xs j) j
        · exact .done
        · exact hX
  unfold qc7
  refine Ev.bind hL1 ?_
  cases namesB xs <;> exact .done
end Go.Fw


namespace Go.Fw
open Go
set_option maxRecDepth 100000

theorem ql5 {n : Nat} {x lo hi : Int} : qeB n x lo hi = some (!inI x lo hi) := by simp only [qeB, qdY, Option.bind_some]

theorem qfz {xs : List Int} {lo hi : Int} (hl : xs.length ≤ 1048576) : Ev (fun n => qb9 n xs lo hi) (xs.all fun x => inI x lo hi) := by
  have h1 : Ev (fun n => qau n xs lo hi) (ixL (fun x => !inI x lo hi) xs) :=
    qfp (fin := (xs.length : Int)) (Lf := qN xs lo hi) (pf := fun _ x => some (!inI x lo hi)) (fun _ _ => .done)
      (fun n => by simp only [qN, qu (Nat.le_refl _), cond_false])
      (fun n j x hx => by
        have hj := (List.getElem?_eq_some_iff.1 hx).1
        simp only [qN, qr hj, cond_true, qat hx, Option.bind_some, ql5, qp (show j < 9223372036854775807 by omega)])
      (fun n => by unfold qau; congr 1; funext o; cases o <;> rfl)
  unfold qb9 qaK
  refine Ev.bind (Ev.bind h1 (Ev.now rfl)) (Ev.now ?_)
  rw [qjc, qle]

def stepB (xs : List Int) (j : Nat) : Bool := decide (j = 0) || decide (at0 xs (j - 1) < at0 xs j)
def incB (xs : List Int) : Bool := allN (stepB xs) xs.length

theorem qkW {xs : List Int} (hl : xs.length ≤ 1048576) : Ev (fun n => qd5 n xs) (incB xs) := by
  have hL : Ev (fun n => qaM xs n 1) (bif incB xs then .nxt (max 1 xs.length : Int) else .ret false) := by
    by_cases h0 : xs.length = 0
    · have hb : incB xs = true := by unfold incB; rw [h0]; rfl
      rw [hb]
      refine Ev.succ ?_
      have : decide ((1 : Int) < (xs.length : Int)) = false := by rw [h0]; decide
      simp only [qaM, this, cond_false]
      exact Ev.now (by rw [h0]; rfl)
    · have := qoy (Lf := qaM xs) (len := xs.length) (i0 := 1) (f := stepB xs) (bad := false) (fin := .nxt (max 1 xs.length : Int)) (by omega)
        (Ev.succ (by
          simp only [qaM, qu (Nat.le_refl _), cond_false]
          exact Ev.now (by congr 2; omega)))
        (fun j h1 hj X hX => Ev.succ (by
          simp only [qaM, qr hj, cond_true, qp (show j < 9223372036854775807 by omega), show (j : Int) - 1 = ((j - 1 : Nat) : Int) by omega, qbx (show -9223372036854775808 ≤ ((j - 1 : Nat) : Int) by omega) (by omega), qdp (show j - 1 < xs.length by omega), qdp hj, Option.bind_some]
          unfold stepB
          by_cases hc : at0 xs (j - 1) < at0 xs j
          · have e1 : decide (at0 xs (j - 1) ≥ at0 xs j) = false := by simp; omega
            rw [e1]; simp only [hc, decide_true, Bool.or_true, cond_true, cond_false]; exact hX
          · have e1 : decide (at0 xs (j - 1) ≥ at0 xs j) = true := by simp; omega
            have e2 : decide (j = 0) = false := by simp; omega
            rw [e1, e2]; simp only [hc, decide_false, Bool.or_self, cond_true, cond_false]; exact .done))
      have e : allN (fun j => stepB xs (1 + j)) (xs.length - 1) = incB xs := by
        unfold incB
        rw [Bool.eq_iff_iff, qa6, qa6]
        constructor
        · intro h j hj
          cases j with
          | zero => rfl
          | succ j => have := h j (by omega); rwa [Nat.add_comm] at this
        · intro h j hj
          exact h (1 + j) (by omega)
      rw [e] at this
      exact this
  unfold qd5
  refine Ev.bind hL ?_
  cases incB xs <;> exact .done

def lenB {α : Type} (xs : List α) (lo hi : Nat) : Bool := decide (lo ≤ xs.length) && decide (xs.length ≤ hi)
theorem qmK {α : Type} {xs : List α} {lo hi : Nat} : inI (xs.length : Int) (lo : Int) (hi : Int) = lenB xs lo hi := by
  unfold inI lenB; rw [Bool.eq_iff_iff]; simp
def axisB (xs : List Int) : Bool := lenB xs 1 4 && ((xs.all fun x => inI x 0 100000) && incB xs)

theorem qmw {xs : List Int} (hl : xs.length ≤ 1048576) : Ev (fun n => qgl n xs) (axisB xs) := by
  simp only [qgl, qa7, Option.bind_some, qdY, show inI (xs.length : Int) 1 4 = lenB xs 1 4 from qmK (lo := 1) (hi := 4)]
  unfold axisB
  cases lenB xs 1 4
  · exact .done
  · refine Ev.tt rfl (Ev.bind (qfz hl) ?_)
    cases (xs.all fun x => inI x 0 100000)
    · exact .done
    · exact Ev.tt rfl (Ev.bind (qkW hl) .done)

theorem qlG {xs : List Int} (hl : xs.length ≤ 1048576) : Ev (fun n => qfF n xs) (axisB xs) := by
  have hL : Ev (fun n => qcf xs n 0) (bif allN (fun j => inI (at0 xs j) 0 100000 && stepB xs j) xs.length then .nxt (xs.length : Int) else .ret false) := by
    refine qeT ?_ (fun j hj X hX => Ev.succ ?_)
    · exact Ev.succ (by simp only [qcf, qu (Nat.le_refl _), cond_false]; exact .done)
    · simp only [qcf, qr hj, cond_true, qdp hj, Option.bind_some, qeD, qp (show j < 9223372036854775807 by omega)]
      cases inI (at0 xs j) 0 100000
      · exact .done
      · simp only [Bool.not_true, cond_false, Bool.true_and]
        unfold stepB
        by_cases h0 : j = 0
        · subst h0
          exact Ev.ff (by decide) hX
        · simp only [show (j : Int) - 1 = ((j - 1 : Nat) : Int) by omega, qbx (show -9223372036854775808 ≤ ((j - 1 : Nat) : Int) by omega) (by omega), qdp (show j - 1 < xs.length by omega), Option.bind_some]
          have e2 : decide (j = 0) = false := by simp; omega
          have e3 : decide ((j : Int) > 0) = true := by simp; omega
          rw [e2, e3]
          simp only [cond_true, Bool.false_or]
          by_cases hc : at0 xs (j - 1) < at0 xs j
          · have e1 : decide (at0 xs (j - 1) ≥ at0 xs j) = false := by simp; omega
            rw [e1]; simp only [hc, decide_true, cond_true, cond_false]; exact hX
          · have e1 : decide (at0 xs (j - 1) ≥ at0 xs j) = true := by simp; omega
            rw [e1]; simp only [hc, decide_false, cond_true, cond_false]; exact .done
  have e : axisB xs = (allN (fun j => inI (at0 xs j) 0 100000 && stepB xs j) xs.length && lenB xs 1 4) := by
    unfold axisB incB
    rw [qiW, qhp (d := 0), Bool.and_comm]
    rfl
  rw [e]
  unfold qfF
  refine Ev.bind hL ?_
  cases allN (fun j => inI (at0 xs j) 0 100000 && stepB xs j) xs.length
  · exact .done
  · simp only [cond_true, qiP, qkj, Bool.true_and]
    exact Ev.now (by congr 1; unfold lenB; rw [Bool.eq_iff_iff]; simp; omega)

def tableB (t : qA) : Bool := axisB t.Slews && (axisB t.Loads && (decide (t.Values.length = t.Slews.length * t.Loads.length) && (t.Values.all fun x => inI x (-1000000) 1000000)))

theorem qoB {a b : Nat} (ha : a ≤ 1048576) (hb : b ≤ 1048576) : W64 ((a : Int) * (b : Int)) = ((a * b : Nat) : Int) := by
  have h : a * b ≤ 1048576 * 1048576 := Nat.mul_le_mul ha hb
  have e : (a : Int) * (b : Int) = ((a * b : Nat) : Int) := by simp
  rw [e]
  exact qbx (by omega) (by omega)

theorem qn7 {t : qA} (h : qgM t) : Ev (fun n => qgT n t) (tableB t) := by
  unfold qgT tableB
  refine Ev.bind (qmw h.Slews.len) ?_
  cases axisB t.Slews
  · exact .done
  · refine Ev.tt rfl (Ev.bind (qmw h.Loads.len) ?_)
    cases axisB t.Loads
    · exact .done
    · rw [qoB h.Slews.len h.Loads.len]
      have e : (((t.Values.length : Nat) : Int) == ((t.Slews.length * t.Loads.length : Nat) : Int)) = decide (t.Values.length = t.Slews.length * t.Loads.length) := by rw [Bool.eq_iff_iff]; simp; omega
      rw [e]
      cases decide (t.Values.length = t.Slews.length * t.Loads.length)
      · exact .done
      · exact Ev.tt rfl (Ev.tt rfl (Ev.bind (qfz h.Values.len) .done))

theorem qnN {t : qA} (h : qgM t) : Ev (fun n => qgz n t) (tableB t) := by
  have hl := h.Values.len
  have hL : Ev (fun n => qcQ t n 0) (bif (t.Values.all fun x => inI x (-1000000) 1000000) then .nxt (t.Values.length : Int) else .ret false) :=
    qiS (fun n => by simp only [qcQ, qu (Nat.le_refl _), cond_false]) (fun j hj X hX => by
      simp only [qcQ, qr hj, cond_true, qfL hj, Option.bind_some, qeD, qp (show j < 9223372036854775807 by omega)]
      cases inI t.Values[j] (-1000000) 1000000
      · exact .done
      · exact hX)
  unfold qgz tableB
  refine Ev.bind (b := !(axisB t.Slews && (axisB t.Loads && decide (t.Values.length = t.Slews.length * t.Loads.length)))) ?_ ?_
  · refine Ev.bind (qlG h.Slews.len) ?_
    cases axisB t.Slews
    · exact .done
    · refine Ev.ff rfl (Ev.bind (qlG h.Loads.len) ?_)
      cases axisB t.Loads
      · exact .done
      · refine Ev.ff rfl (Ev.now ?_)
        rw [qoB h.Slews.len h.Loads.len]
        congr 1
        rw [Bool.eq_iff_iff]; simp; omega
  · cases axisB t.Slews
    · exact .done
    · cases axisB t.Loads
      · exact .done
      · cases decide (t.Values.length = t.Slews.length * t.Loads.length)
        · exact .done
        · refine Ev.ff rfl (Ev.bind hL ?_)
          cases (t.Values.all fun x => inI x (-1000000) 1000000) <;> exact .done
end Go.Fw


namespace Go.Fw
open Go
set_option maxRecDepth 100000

instance : Inhabited qae := ⟨⟨ByteArray.empty, 0, 0, false⟩⟩
instance : Inhabited qA := ⟨⟨[], [], []⟩⟩
instance : Inhabited qT := ⟨⟨0, 0, 0, 0, [], []⟩⟩
instance : Inhabited qv := ⟨⟨ByteArray.empty, 0, [], [], [], 0, 0⟩⟩
instance : Inhabited ql := ⟨⟨ByteArray.empty, 0, []⟩⟩
instance : Inhabited qW := ⟨⟨ByteArray.empty, 0, 0⟩⟩
instance : Inhabited qQ := ⟨⟨[], [], [], []⟩⟩

theorem lastE {j m : Nat} (h : j < m) (hm : m ≤ 1048576) : ((j : Int) == W64 ((m : Int) - 1)) = decide (j + 1 = m) := by
  rcases qqy h with h | h
  · exact h
  · omega
theorem qhJ {α : Type} [Inhabited α] {xs : List α} {g : α → ByteArray} {j : Nat} (h : j < xs.length) : strAt (xs.map g) j = g (gt xs j) := by
  rw [qkk (by simpa using h), qiu h]; simp
/-- Names that differ, by the list that they are taken from. -/
theorem qjp {α : Type} {xs : List α} {g : α → ByteArray} {ok : α → Prop} (h : okL ok xs) (hg : ∀ x, ok x → okS (g x)) : okL okS (xs.map g) :=
  ⟨by rw [List.length_map]; exact h.1, fun y hy => by
    obtain ⟨x, hx, rfl⟩ := List.mem_map.1 hy
    exact hg x (h.2 x hx)⟩
theorem qik {α β : Type} {xs : List α} {g : α → β} {j : Nat} (h : j < xs.length) (hl : xs.length ≤ 1048576) {y : β} : appS ((xs.take j).map g) [y] = some ((xs.take j).map g ++ [y]) :=
  qee (by simp; omega)

/-! ### Pins -/

def pinB (ps : List qae) (j : Nat) : Bool :=
  bif decide (j + 1 = ps.length) then ((gt ps j).Dir == 2) && (((gt ps j).Cap == 0) && !(gt ps j).Clock) else ((gt ps j).Dir == 1) && inI (gt ps j).Cap 0 500
def pinsB (ps : List qae) : Bool := allN (pinB ps) ps.length && (lenB ps 2 5 && namesB (ps.map qae.Name))
def clkN (ps : List qae) (j : Nat) : Nat := cntP (fun i => (gt ps i).Clock) j

theorem qok {ps : List qae} (h : okL qi8 ps) : Ev (fun n => qgA n ps) (pinsB ps) := by
  have hl := h.len
  have hL : Ev (fun n => qbM ps n ([] : List ByteArray) 0) (bif allN (pinB ps) ps.length then .nxt (ps.map qae.Name, (ps.length : Int)) else .ret false) := by
    refine loopN (Lf := qbM ps) (S := fun j => (ps.take j).map qae.Name) (pinB ps) (fun n => ?_) (fun j hj hp X hX => ?_)
    · simp only [qbM, qu (Nat.le_refl _), cond_false, List.take_length]
    · simp only [qbM, qr hj, cond_true, qam hj, Option.bind_some, qik hj hl, qfC (g := qae.Name) hj, lastE hj hl, bne, qb6, qdY, qp (show j < 9223372036854775807 by omega)]
      generalize hc : pinB ps j = c at hX ⊢
      unfold pinB at hc
      cases hd : decide (j + 1 = ps.length)
      · rw [hd] at hc
        simp only [cond_false] at hc ⊢
        subst hc
        exact Ev.okP (fun h1 => Ev.okP1 (fun h2 => hX (by rw [h1, h2]; rfl)))
      · rw [hd] at hc
        simp only [cond_true] at hc ⊢
        subst hc
        refine Ev.okP (fun h1 => Ev.okP (fun h2 => Ev.chkP1 (fun h3 => hX (by rw [h1, h2, h3]; rfl))))
  unfold qgA pinsB
  refine Ev.bind hL ?_
  cases allN (pinB ps) ps.length
  · exact .done
  · simp only [cond_true, qbi, qdY, Option.bind_some, show inI (ps.length : Int) 2 5 = lenB ps 2 5 from qmK (lo := 2) (hi := 5), Bool.true_and]
    exact Ev.andP (fun _ => Ev.last (qhf (qjp h (fun x hx => hx.Name))))

/-- A check of the reference, one pin. -/
def pinS (ps : List qae) (j : Nat) : Bool := allN (neB (ps.map qae.Name) j) j && ((nameB (gt ps j).Name && inI (gt ps j).Cap 0 500) && (bif decide (j + 1 = ps.length) then ((gt ps j).Dir == 2) && (((gt ps j).Cap == 0) && !(gt ps j).Clock) else ((gt ps j).Dir == 1)))

theorem qqc {ps : List qae} : (lenB ps 2 5 && allN (pinS ps) ps.length) = pinsB ps := by
  have e : namesB (ps.map qae.Name) = allN (fun j => nameB (gt ps j).Name && allN (neB (ps.map qae.Name) j) j) ps.length := by
    unfold namesB
    rw [List.length_map]
    exact qf6 (fun j hj => by rw [qhJ hj])
  unfold pinsB
  rw [e, ← Bool.and_assoc, Bool.and_comm (allN (pinB ps) ps.length), Bool.and_assoc, ← qiW]
  congr 1
  refine qf6 (fun j hj => ?_)
  unfold pinS pinB
  cases hd : decide (j + 1 = ps.length)
  · simp only [cond_false]
    cases allN (neB (ps.map qae.Name) j) j <;> cases nameB (gt ps j).Name <;> cases inI (gt ps j).Cap 0 500 <;> cases ((gt ps j).Dir == 1) <;> rfl
  · simp only [cond_true]
    cases hcap : ((gt ps j).Cap == 0)
    · simp
    · have : inI (gt ps j).Cap 0 500 = true := by rw [beq_iff_eq] at hcap; rw [hcap]; rfl
      rw [this]
      cases allN (neB (ps.map qae.Name) j) j <;> cases nameB (gt ps j).Name <;> cases ((gt ps j).Dir == 2) <;> cases (gt ps j).Clock <;> rfl

theorem qn3 {c : qv} (h : okL qi8 c.Pins) : Ev (fun n => qgH n c) (bif pinsB c.Pins then (((clkN c.Pins c.Pins.length : Nat) : Int), true) else (0, false)) := by
  have hl := h.len
  have hL2 : ∀ j, j < c.Pins.length → Ev (fun n => qcP c (j : Int) (gt c.Pins j) n 0) (bif allN (neB (c.Pins.map qae.Name) j) j then .nxt (j : Int) else .ret (0, false)) := by
    intro j hj
    refine qeT ?_ (fun i hi X hX => Ev.succ ?_)
    · exact Ev.succ (by simp only [qcP, qu (Nat.le_refl _), cond_false]; exact .done)
    · simp only [qcP, qr hi, cond_true, qam (show i < c.Pins.length by omega), Option.bind_some, qf0, qp (show i < 9223372036854775807 by omega)]
      unfold neB
      rw [qhJ (g := qae.Name) (show i < c.Pins.length by omega), qhJ (g := qae.Name) hj]
      exact Ev.chkP1 (fun _ => hX)
  have hL1 : Ev (fun n => qbJ c n 0 0) (bif allN (pinS c.Pins) c.Pins.length then .nxt (((clkN c.Pins c.Pins.length : Nat) : Int), (c.Pins.length : Int)) else .ret (0, false)) := by
    refine loopN (Lf := qbJ c) (S := fun j => ((clkN c.Pins j : Nat) : Int)) (pinS c.Pins) (fun n => ?_) (fun j hj hp X hX => ?_)
    · simp only [qbJ, qu (Nat.le_refl _), cond_false]
    · have hn : clkN c.Pins j ≤ j := qd4
      have ejl : ((j : Int) == W64 ((c.Pins.length : Int) - 1)) = decide (j + 1 = c.Pins.length) := lastE hj hl
      have elt : decide ((j : Int) < W64 ((c.Pins.length : Int) - 1)) = !decide (j + 1 = c.Pins.length) := by
        rw [qbx (by omega) (by omega), Bool.eq_iff_iff]; simp; omega
      simp only [qbJ, qr hj, cond_true, qam hj, Option.bind_some, qp (show j < 9223372036854775807 by omega), qp (show clkN c.Pins j < 9223372036854775807 by omega), ejl, elt, qeD]
      unfold pinS
      refine Ev.bind (hL2 j hj) ?_
      cases ha : allN (neB (c.Pins.map qae.Name) j) j
      · exact .done
      · simp only [cond_true, Bool.true_and]
        refine Ev.chkT ?_ (fun h1 => ?_)
        · exact Ev.or (qjU (qi3 h hj).Name) (fun _ => .done)
        · refine Ev.chkT1 ?_ (fun h2 => ?_)
          · cases decide (j + 1 = c.Pins.length)
            · exact .done
            · simp only [cond_true, Bool.not_true, cond_false, bne, qb6]
              cases ((gt c.Pins j).Dir == 2) <;> cases ((gt c.Pins j).Cap == 0) <;> cases (gt c.Pins j).Clock <;> exact .done
          · have hX := hX (by unfold pinS; rw [ha, h1, h2]; rfl)
            have hck : clkN c.Pins (j + 1) = clkN c.Pins j + (bif (gt c.Pins j).Clock then 1 else 0) := rfl
            rw [hck] at hX
            cases hc : (gt c.Pins j).Clock
            · rw [hc] at hX; exact Ev.ff rfl hX
            · rw [hc] at hX; exact Ev.tt rfl hX
  rw [← qqc]
  unfold qgH
  refine Ev.guard ?_ (fun h1 => ?_)
  · unfold lenB
    have e1 : decide ((c.Pins.length : Int) < 2) = !decide (2 ≤ c.Pins.length) := by rw [Bool.eq_iff_iff]; simp; omega
    have e2 : decide ((c.Pins.length : Int) > 5) = !decide (c.Pins.length ≤ 5) := by rw [Bool.eq_iff_iff]; simp; omega
    rw [e1, e2]
    cases decide (2 ≤ c.Pins.length) <;> cases decide (c.Pins.length ≤ 5) <;> exact .done
  · refine Ev.bind hL1 ?_
    cases allN (pinS c.Pins) c.Pins.length <;> exact .done

/-! ### Lists of tables -/

def mnL (xs : List Int) : Int := (xs.drop 1).foldl (fun m y => if y < m then y else m) (at0 xs 0)
def mxL (xs : List Int) : Int := (xs.drop 1).foldl (fun m y => if y > m then y else m) (at0 xs 0)

theorem qlL {t : qA} (h : tableB t = true) : 1 ≤ t.Values.length := by
  unfold tableB axisB lenB at h
  simp only [Bool.and_eq_true, decide_eq_true_eq] at h
  obtain ⟨⟨⟨h1, _⟩, _⟩, ⟨⟨h2, _⟩, _⟩, h3, _⟩ := h
  rw [h3]
  exact Nat.mul_pos h1 h2

theorem qqj {xs : List Int} (h1 : 1 ≤ xs.length) (hl : xs.length ≤ 1048576) : Ev (fun n => qeE n xs) (mnL xs) := by
  have hL := (qmu (Lf := fun n t j => qbt xs n t j) (xs := xs) (step := fun (m y : Int) => if y < m then y else m) (fin := fun t => (t, (xs.length : Int))) 1 (at0 xs 0) (fun _ _ => True) h1 trivial (fun _ _ _ _ => trivial)
    (fun n t => by simp only [qbt, qu (Nat.le_refl _), cond_false])
    (fun j t hj _ X hX => by simpa only [qbt, qr hj, cond_true, qfL hj, Option.bind_some, qp (show j < 9223372036854775807 by omega)] using hX)).1
  unfold qeE
  rw [show decide ((xs.length : Int) < 1) = false by simp; omega, show idx xs (0 : Int) = some (at0 xs 0) from qdp (j := 0) (by omega)]
  simp only [cond_false, Option.bind_some]
  exact Ev.bind hL .done

theorem qnV {t : qA} (h : qgM t) : Ev (fun n => qex n t) (bif tableB t then (⟨mnL t.Values, mxL t.Values⟩, 0) else (⟨0, 0⟩, 1)) := by
  unfold qex
  refine Ev.chk1 (qnN h) (fun hb => ?_)
  have h1 := qlL hb
  have hl := h.Values.len
  have hL := (qmu (Lf := fun n (t' : Int × Int) j => qbv t n t'.1 t'.2 j) (xs := t.Values) (step := fun (m : Int × Int) y => (if y < m.1 then y else m.1, if y > m.2 then y else m.2)) (fin := fun t' => (t'.1, t'.2, (t.Values.length : Int))) 1 (at0 t.Values 0, at0 t.Values 0) (fun _ _ => True) h1 trivial (fun _ _ _ _ => trivial)
    (fun n t => by simp only [qbv, qu (Nat.le_refl _), cond_false])
    (fun j t hj _ X hX => by simpa only [qbv, qr hj, cond_true, qfL hj, Option.bind_some, qp (show j < 9223372036854775807 by omega)] using hX)).1
  have hf : ∀ (ys : List Int) (a b : Int), ys.foldl (fun (m : Int × Int) y => (if y < m.1 then y else m.1, if y > m.2 then y else m.2)) (a, b) = (ys.foldl (fun m y => if y < m then y else m) a, ys.foldl (fun m y => if y > m then y else m) b) := by
    intro ys
    induction ys with
    | nil => intro a b; rfl
    | cons y ys ih => intro a b; simp only [List.foldl_cons, ih]
  rw [hf] at hL
  rw [show idx t.Values (0 : Int) = some (at0 t.Values 0) from qdp (j := 0) (by omega)]
  simp only [Option.bind_some]
  exact Ev.bind hL .done

def tabB (pos : Bool) (t : qA) : Bool := tableB t && (!pos || decide (0 ≤ mnL t.Values))
def tablesB (ts : List qA) (pos : Bool) : Bool := decide (ts.length = 2) && ts.all (tabB pos)

theorem qix {ts : List qA} {pos : Bool} (h : okL qgM ts) : Ev (fun n => qdR n ts pos) (tablesB ts pos) := by
  have hl := h.len
  have h1 : Ev (fun n => qah n ts pos) (ixL (fun x => !tabB pos x) ts) :=
    qfp (fin := (ts.length : Int)) (Lf := qK ts pos) (pf := fun n x => qeF n x pos) (fun x hx => by
        unfold qeF tabB
        refine Ev.or (qn7 (h.2 x hx)) (fun hb => ?_)
        cases pos
        · exact .done
        · refine Ev.tt rfl (Ev.bind (qqj (qlL hb) (h.2 x hx).Values.len) (Ev.now ?_))
          congr 1
          rw [Bool.eq_iff_iff]; simp)
      (fun n => by simp only [qK, qu (Nat.le_refl _), cond_false])
      (fun n j x hx => by
        have hj := (List.getElem?_eq_some_iff.1 hx).1
        simp only [qK, qr hj, cond_true, qat hx, Option.bind_some, qp (show j < 9223372036854775807 by omega)])
      (fun n => by unfold qah; congr 1; funext o; cases o <;> rfl)
  unfold qdR qas tablesB
  rw [show ((ts.length : Int) == 2) = decide (ts.length = 2) by rw [Bool.eq_iff_iff]; simp; omega]
  refine Ev.andP (fun _ => Ev.bind (Ev.bind h1 (Ev.now rfl)) (Ev.now ?_))
  rw [qjc, qle]

theorem qgB {ts : List qA} {pos : Bool} (h : okL qgM ts) : Ev (fun n => qcv n ts pos) (tablesB ts pos) := by
  unfold qcv tablesB
  rw [show ((ts.length : Int) != 2) = !decide (ts.length = 2) by rw [Bool.eq_iff_iff]; simp; omega]
  simp only [qb6]
  refine Ev.andP (fun h2 => ?_)
  have h2 : ts.length = 2 := by simpa using h2
  have hL : Ev (fun n => qbz ts pos n 0) (bif allN (fun j => tabB pos (gt ts j)) ts.length then .nxt (2 : Int) else .ret false) := by
    refine qeT (len := ts.length) ?_ (fun j hj X hX => Ev.succ ?_)
    · rw [h2]; exact Ev.succ (by simp only [qbz]; exact .done)
    · simp only [qbz, show decide ((j : Int) < 2) = true by simp; omega, cond_true, qam hj, Option.bind_some, qp (show j < 9223372036854775807 by omega)]
      refine Ev.bind (qnV (qi3 h hj)) ?_
      unfold tabB
      cases tableB (gt ts j)
      · exact .done
      · simp only [cond_true, Bool.true_and]
        refine Ev.ff rfl ?_
        cases pos
        · exact hX
        · refine Ev.tt rfl ?_
          rw [show decide (mnL (gt ts j).Values < 0) = !decide (0 ≤ mnL (gt ts j).Values) by rw [Bool.eq_iff_iff]; simp]
          simp only [qb6]
          exact Ev.okP1 (fun _ => hX)
  rw [qhs]
  refine Ev.bind hL ?_
  cases allN (fun j => tabB pos (gt ts j)) ts.length <;> exact .done
end Go.Fw


namespace Go.Fw
open Go
set_option maxRecDepth 100000

theorem qft {α : Type} [Inhabited α] {xs : List α} {x : Int} (h0 : 0 ≤ x) (h1 : x < xs.length) : idx xs x = some (gt xs x.toNat) := by
  have := qam (xs := xs) (j := x.toNat) (by omega)
  rwa [← qjJ h0] at this
theorem qmg {q : Nat → Bool} {m n : Nat} (h : m ≤ n) : cntP q m ≤ cntP q n := by
  induction n with
  | zero => obtain rfl : m = 0 := by omega
            exact Nat.le_refl _
  | succ n ih =>
    rcases Nat.lt_or_eq_of_le h with h | rfl
    · exact Nat.le_trans (ih (by omega)) (Nat.le_add_right _ _)
    · exact Nat.le_refl _
theorem qjk {m k : Nat} : decide ((m : Int) ≤ (k : Int)) = decide (m ≤ k) := by rw [Bool.eq_iff_iff]; simp
theorem qno {q : Nat → Bool} {n i j : Nat} (hi : i < j) (hj : j < n) (h1 : q i = true) (h2 : q j = true) : 2 ≤ cntP q n := by
  have e1 : cntP q (i + 1) = cntP q i + 1 := by rw [cntP, h1]; rfl
  have e2 : cntP q (j + 1) = cntP q j + 1 := by rw [cntP, h2]; rfl
  have m1 := qmg (q := q) (show i + 1 ≤ j by omega)
  have m2 := qmg (q := q) (show j + 1 ≤ n by omega)
  omega
theorem qnl {q : Nat → Bool} {n i j : Nat} (hn : cntP q n ≤ 1) (hi : i < n) (hj : j < n) (h1 : q i = true) (h2 : q j = true) : i = j := by
  rcases Nat.lt_trichotomy i j with h | h | h
  · have := qno h hj h1 h2; omega
  · exact h
  · have := qno h hi h2 h1; omega

/-! ### Arcs -/

def clkIx (ps : List qae) : Int := ixL (fun p => p.Clock) ps
def clkAt (ps : List qae) (x : Int) : Bool := (gt ps x.toNat).Clock

theorem qps {c : qv} (hl : c.Pins.length ≤ 1048576) : Ev (fun n => qeZ n c) (clkIx c.Pins) := by
  unfold qeZ
  refine Ev.bind (b := clkIx c.Pins) ?_ .done
  exact qfp (fin := (c.Pins.length : Int)) (Lf := qL c.Pins) (pf := fun n x => qfa n x) (fun _ _ => .done)
    (fun n => by simp only [qL, qu (Nat.le_refl _), cond_false])
    (fun n j x hx => by
      have hj := (List.getElem?_eq_some_iff.1 hx).1
      simp only [qL, qr hj, cond_true, qat hx, Option.bind_some, qp (show j < 9223372036854775807 by omega)])
    (fun n => by unfold qaH; congr 1; funext o; cases o <;> rfl)

def arcI (ps : List qae) (a : qT) : Bool :=
  bif (a.Kind == 4) || (a.Kind == 5) then
    (a.Sense == 0) && (((a.Slew.length : Int) == 0) && (tablesB a.Delay false && ((a.From == clkIx ps) && (decide (a.From ≥ 0) && (inI a.To 0 (ps.length - 2) && !(a.To == a.From))))))
  else
    (tablesB a.Delay true && (tablesB a.Slew true && ((a.To == (ps.length : Int) - 1) && inI a.From 0 (ps.length - 2)))) &&
      (bif a.Kind == 1 then !clkAt ps a.From && inI a.Sense 1 3 else (bif (a.Kind == 2) || (a.Kind == 3) then clkAt ps a.From && (a.Sense == 0) else false))

def arcS (ps : List qae) (a : qT) : Bool :=
  (inI a.From 0 (ps.length - 2) && inI a.To 0 (ps.length - 1)) &&
    (bif a.Kind == 1 then !clkAt ps a.From && ((a.To == (ps.length : Int) - 1) && (inI a.Sense 1 3 && (tablesB a.Delay true && tablesB a.Slew true)))
     else (bif (a.Kind == 2) || (a.Kind == 3) then clkAt ps a.From && ((a.To == (ps.length : Int) - 1) && ((a.Sense == 0) && (tablesB a.Delay true && tablesB a.Slew true)))
     else (bif (a.Kind == 4) || (a.Kind == 5) then clkAt ps a.From && (decide (a.To < (ps.length : Int) - 1) && (!clkAt ps a.To && ((a.Sense == 0) && (tablesB a.Delay false && ((a.Slew.length : Int) == 0))))) else false)))

theorem qkN {c d : Bool} : (bif c then some c else some d) = some (c || d) := by cases c <;> rfl
theorem qnz {c d : Bool} : (bif c then some true else some d) = some (c || d) := by cases c <;> rfl

theorem qnZ {n : Nat} {k : Int} : qgC n k = some ((k == 4) || (k == 5)) := by simp only [qgC, qnz]
theorem qpZ {c : qv} {a : qT} (h : okL qi8 c.Pins) (ha : qjP a) (hm : 2 ≤ c.Pins.length) : Ev (fun n => qe0 n c a) (arcI c.Pins a) := by
  have hl := h.len
  have e1 : W64 ((c.Pins.length : Int) - 1) = (c.Pins.length : Int) - 1 := qdm (by omega)
  have e2 : W64 ((c.Pins.length : Int) - 1 - 1) = (c.Pins.length : Int) - 2 := by rw [qbx (by omega) (by omega)]; omega
  simp only [qe0, qnZ, Option.bind_some, qef, qbQ, qbi, e1, e2, qdY, qkN, bne]
  unfold arcI
  refine Ev.iff (fun _ => Ev.last ?_) (fun _ => Ev.guardB ?_ (fun hb => ?_))
  · exact Ev.andP fun _ => Ev.andP fun _ => Ev.and (qix ha.Delay) fun _ => Ev.bind (qps hl) (Ev.andP fun _ => Ev.andP fun _ => Ev.andP fun _ => .done)
  · refine Ev.or (qix ha.Delay) fun _ => Ev.or (qix ha.Slew) fun _ => ?_
    simp only [qb6]
    exact Ev.orBP fun _ => .done
  · have hf : 0 ≤ a.From ∧ a.From ≤ (c.Pins.length : Int) - 2 := by
      simp only [Bool.and_eq_true, qcE] at hb
      exact hb.2.2.2
    simp only [qft hf.1 (show a.From < (c.Pins.length : Int) by omega), Option.bind_some]
    exact Ev.iff (fun _ => Ev.andP fun _ => .done) (fun _ => Ev.iff (fun _ => Ev.andP fun _ => .done) (fun _ => .done))

theorem qoT {c : qv} {a : qT} (h : okL qi8 c.Pins) (ha : qjP a) (hm : 2 ≤ c.Pins.length) : Ev (fun n => qho n c a) (arcS c.Pins a) := by
  have hl := h.len
  have e1 : W64 ((c.Pins.length : Int) - 1) = (c.Pins.length : Int) - 1 := qdm (by omega)
  have e2 : W64 ((c.Pins.length : Int) - 1 - 1) = (c.Pins.length : Int) - 2 := by rw [qbx (by omega) (by omega)]; omega
  simp only [qho, Option.bind_some, e1, e2, qeD, qkN]
  unfold arcS
  refine Ev.guardB ?_ (fun hb => ?_)
  · simp only [qb6]
    exact Ev.orBP fun _ => .done
  · have hf : (0 ≤ a.From ∧ a.From ≤ (c.Pins.length : Int) - 2) ∧ (0 ≤ a.To ∧ a.To ≤ (c.Pins.length : Int) - 1) := by
      simp only [Bool.and_eq_true, qcE] at hb
      exact hb
    simp only [qft hf.1.1 (show a.From < (c.Pins.length : Int) by omega), qft hf.2.1 (show a.To < (c.Pins.length : Int) by omega), Option.bind_some]
    refine Ev.iff (fun _ => ?_) (fun _ => Ev.iff (fun _ => ?_) (fun _ => Ev.iff (fun _ => ?_) (fun _ => .done)))
    · exact Ev.andP fun _ => Ev.andP fun _ => Ev.andP fun _ => Ev.and (qgB ha.Delay) fun _ => Ev.last (qgB ha.Slew)
    · exact Ev.andP fun _ => Ev.andP fun _ => Ev.andP fun _ => Ev.and (qgB ha.Delay) fun _ => Ev.last (qgB ha.Slew)
    · exact Ev.andP fun _ => Ev.andP fun _ => Ev.andP fun _ => Ev.andP fun _ => Ev.and (qgB ha.Delay) fun _ => .done

/-- The place of the clock, where there is one at most. -/
theorem qkF {ps : List qae} (h1 : clkN ps ps.length ≤ 1) {x : Int} (hx : 0 ≤ x) : clkIx ps = x ↔ x < ps.length ∧ clkAt ps x = true := by
  unfold clkIx ixL
  cases hf : ps.findIdx? (fun p => p.Clock) with
  | some j =>
    obtain ⟨hj, hp, _⟩ := List.findIdx?_eq_some_iff_getElem.1 hf
    have hpj : (gt ps j).Clock = true := by rw [qiu hj]; exact hp
    constructor
    · intro e
      have e : (j : Int) = x := e
      subst e
      exact ⟨by omega, by unfold clkAt; rw [Int.toNat_natCast]; exact hpj⟩
    · rintro ⟨hl, hc⟩
      have := qnl h1 hj (show x.toNat < ps.length by omega) hpj hc
      show (j : Int) = x
      omega
  | none =>
    have hn := List.findIdx?_eq_none_iff.1 hf
    constructor
    · intro e
      have e : (-1 : Int) = x := e
      omega
    · rintro ⟨hl, hc⟩
      have hxl : x.toNat < ps.length := by omega
      unfold clkAt at hc
      rw [qiu hxl] at hc
      have := hn _ (List.getElem_mem hxl)
      rw [hc] at this
      exact absurd this (by decide)

theorem qhM {ps : List qae} (h : pinsB ps = true) : (2 ≤ ps.length ∧ ps.length ≤ 5) ∧ clkAt ps ((ps.length : Int) - 1) = false := by
  unfold pinsB lenB at h
  simp only [Bool.and_eq_true, decide_eq_true_eq] at h
  refine ⟨h.2.1, ?_⟩
  have h1 := qa6.1 h.1 (ps.length - 1) (by omega)
  unfold pinB at h1
  rw [show decide (ps.length - 1 + 1 = ps.length) = true by simp; omega] at h1
  simp only [cond_true, Bool.and_eq_true, Bool.not_eq_true'] at h1
  unfold clkAt
  rw [show ((ps.length : Int) - 1).toNat = ps.length - 1 by omega]
  exact h1.2.2

theorem qpM {ps : List qae} {a : qT} (h : pinsB ps = true) (h1 : clkN ps ps.length ≤ 1) : arcI ps a = arcS ps a := by
  obtain ⟨⟨hm, hm5⟩, hlast⟩ := qhM h
  rw [Bool.eq_iff_iff]
  unfold arcI arcS
  cases h45 : ((a.Kind == 4) || (a.Kind == 5)) with
  | true =>
    have k1 : (a.Kind == 1) = false := by simp at h45 ⊢; omega
    have k23 : ((a.Kind == 2) || (a.Kind == 3)) = false := by simp at h45 ⊢; omega
    rw [k1, k23]
    simp only [cond_true, cond_false, Bool.and_eq_true, qcE, decide_eq_true_eq, beq_iff_eq, Bool.not_eq_true', beq_eq_false_iff_ne, ne_eq]
    constructor
    · rintro ⟨hs, hsl, hd, hf, hf0, ht, hne⟩
      obtain ⟨hl, hc⟩ := (qkF h1 hf0).1 hf.symm
      have hfl : a.From ≠ (ps.length : Int) - 1 := by intro e; rw [e, hlast] at hc; cases hc
      refine ⟨⟨⟨hf0, by omega⟩, ⟨ht.1, by omega⟩⟩, hc, by omega, ?_, hs, hd, hsl⟩
      cases hct : clkAt ps a.To with
      | false => rfl
      | true =>
        have := (qkF h1 ht.1).2 ⟨by omega, hct⟩
        omega
    · rintro ⟨⟨hf, ht⟩, hc, hlt, hct, hs, hd, hsl⟩
      have := (qkF h1 hf.1).2 ⟨by omega, hc⟩
      refine ⟨hs, hsl, hd, this.symm, hf.1, ⟨ht.1, by omega⟩, ?_⟩
      intro e
      rw [e, hc] at hct
      cases hct
  | false =>
    simp only [cond_false, Bool.and_eq_true, qcE, beq_iff_eq]
    cases (a.Kind == 1)
    · cases ((a.Kind == 2) || (a.Kind == 3))
      · simp
      · simp only [cond_true, cond_false, Bool.and_eq_true, beq_iff_eq]
        constructor
        · rintro ⟨⟨h1, h2, h3, h4⟩, h5, h6⟩
          exact ⟨⟨h4, by omega⟩, h5, h3, h6, h1, h2⟩
        · rintro ⟨⟨h4, h7⟩, h5, h3, h6, h1, h2⟩
          exact ⟨⟨h1, h2, h3, h4⟩, h5, h6⟩
    · simp only [cond_true, Bool.and_eq_true, qcE, Bool.not_eq_true', beq_iff_eq]
      constructor
      · rintro ⟨⟨h1, h2, h3, h4⟩, h5, h6⟩
        exact ⟨⟨h4, by omega⟩, h5, h3, h6, h1, h2⟩
      · rintro ⟨⟨h4, h7⟩, h5, h3, h6, h1, h2⟩
        exact ⟨⟨h1, h2, h3, h4⟩, h5, h6⟩

theorem qmn {ps : List qae} {a : qT} (h : arcS ps a = true) : 1 ≤ a.Kind ∧ a.Kind ≤ 5 := by
  unfold arcS at h
  rw [Bool.and_eq_true] at h
  have h := h.2
  cases h1 : (a.Kind == 1)
  · cases h2 : ((a.Kind == 2) || (a.Kind == 3))
    · cases h4 : ((a.Kind == 4) || (a.Kind == 5))
      · rw [h1, h2, h4] at h; cases h
      · simp at h4; omega
    · simp at h2; omega
  · simp at h1; omega

def sameArc (x y : qT) : Bool := (x.Kind == y.Kind) && ((x.From == y.From) && (x.To == y.To))
def newArc (ar : List qT) (j : Nat) : Bool := allN (fun i => !sameArc (gt ar i) (gt ar j)) j

theorem qog {c : qv} (h : okL qi8 c.Pins) (ha : okL qjP c.Arcs) (hm : 2 ≤ c.Pins.length) : Ev (fun n => qeg n c) (allN (fun j => arcI c.Pins (gt c.Arcs j) && newArc c.Arcs j) c.Arcs.length && decide (c.Arcs.length ≤ 8)) := by
  have hl := ha.len
  have h1 : ∀ (ar : List qT) (y : qT), ar.length ≤ 1048576 → Ev (fun n => qab n ar y) (ar.any fun x => sameArc x y) := by
    intro ar y hl
    unfold qab
    refine Ev.bind (b := ixL (fun x => sameArc x y) ar) (qfp (fin := (ar.length : Int)) (Lf := qJ ar y) (pf := fun n x => qdx n x y) (fun x _ => ?_)
      (fun n => by simp only [qJ, qu (Nat.le_refl _), cond_false])
      (fun n j x hx => by
        have hj := (List.getElem?_eq_some_iff.1 hx).1
        simp only [qJ, qr hj, cond_true, qat hx, Option.bind_some, qp (show j < 9223372036854775807 by omega)])
      (fun n => by unfold qax; congr 1; funext o; cases o <;> rfl)) (Ev.now (by rw [qjc]))
    unfold qdx sameArc
    exact Ev.andP fun _ => Ev.andP fun _ => .done
  have hL : Ev (fun n => qbh c n 0) (bif allN (fun j => arcI c.Pins (gt c.Arcs j) && newArc c.Arcs j) c.Arcs.length then .nxt (c.Arcs.length : Int) else .ret false) := by
    refine qeT ?_ (fun j hj X hX => Ev.succ ?_)
    · exact Ev.succ (by simp only [qbh, qu (Nat.le_refl _), cond_false]; exact .done)
    · simp only [qbh, qr hj, cond_true, qam hj, Option.bind_some, qoV (Nat.le_of_lt hj), qp (show j < 9223372036854775807 by omega)]
      refine Ev.chk (qpZ h (qi3 ha hj) hm) fun _ => Ev.chkT1 ?_ (fun _ => hX)
      refine (h1 _ _ (by simp; omega)).cast ?_
      rw [qpk (Nat.le_of_lt hj)]; rfl
  unfold qeg
  refine Ev.bind hL ?_
  cases allN (fun j => arcI c.Pins (gt c.Arcs j) && newArc c.Arcs j) c.Arcs.length
  · exact .done
  · refine Ev.now ?_
    show some (decide ((c.Arcs.length : Int) ≤ ((8 : Nat) : Int))) = some (true && decide (c.Arcs.length ≤ 8))
    rw [qjk, Bool.true_and]

def hasB (ar : List qT) (k : Int) : Bool := ar.any fun a => a.Kind == k
theorem qkC {c : qv} {k : Int} (hl : c.Arcs.length ≤ 1048576) : Ev (fun n => qct n c k) (hasB c.Arcs k) := by
  unfold qct qaA
  exact Ev.last (Ev.bind (b := ixL (fun x => x.Kind == k) c.Arcs) (qfp (fin := (c.Arcs.length : Int)) (Lf := qM c.Arcs k) (pf := fun n x => qf2 n x k) (fun x _ => .done)
      (fun n => by simp only [qM, qu (Nat.le_refl _), cond_false])
      (fun n j x hx => by
        have hj := (List.getElem?_eq_some_iff.1 hx).1
        simp only [qM, qr hj, cond_true, qat hx, Option.bind_some, qp (show j < 9223372036854775807 by omega)])
      (fun n => by unfold qaQ; congr 1; funext o; cases o <;> rfl)) (Ev.now (by rw [qjc]; rfl)))

def kindN (ar : List qT) (k : Nat) (j : Nat) : Nat := cntP (fun i => (gt ar i).Kind == (k : Int)) j
theorem qmp {ar : List qT} {k : Nat} : decide (((kindN ar k ar.length : Nat) : Int) > 0) = hasB ar k := by
  rw [show decide (((kindN ar k ar.length : Nat) : Int) > 0) = decide (0 < kindN ar k ar.length) by simp]
  unfold kindN hasB
  rw [qnt, qpr]
theorem qoq {ar : List qT} {k : Nat} : (((kindN ar k ar.length : Nat) : Int) == 0) = !hasB ar k := by
  rw [← qmp, Bool.eq_iff_iff]; simp

theorem qnf {c : qv} (ha : okL qjP c.Arcs) (hk : ∀ j, j < c.Arcs.length → 1 ≤ (gt c.Arcs j).Kind ∧ (gt c.Arcs j).Kind ≤ 5) : Ev (fun n => qfT n c) (vecC (fun k => kindN c.Arcs k c.Arcs.length) 6) := by
  have hl := ha.len
  have hL : Ev (fun n => qbO c n (vecC (fun _ => 0) 6) 0) (vecC (fun k => kindN c.Arcs k c.Arcs.length) 6, (c.Arcs.length : Int)) := by
    refine loopF (Lf := qbO c) (S := fun j => vecC (fun k => kindN c.Arcs k j) 6) (len := c.Arcs.length) (fun n => ?_) (fun j hj X hX => ?_)
    · simp only [qbO, qu (Nat.le_refl _), cond_false]
    · obtain ⟨k1, k5⟩ := hk j hj
      have ek : (gt c.Arcs j).Kind = (((gt c.Arcs j).Kind.toNat : Nat) : Int) := qjJ (by omega)
      have hc : kindN c.Arcs (gt c.Arcs j).Kind.toNat j ≤ j := qd4
      simp only [qbO, qr hj, cond_true, qam hj, Option.bind_some, qp (show j < 9223372036854775807 by omega)]
      rw [ek, qhV (show (gt c.Arcs j).Kind.toNat < 6 by omega)]
      simp only [Option.bind_some]
      rw [qmr (c := fun k => kindN c.Arcs k j) (by show kindN c.Arcs _ j < _; omega)]
      have : vecC (fun i => kindN c.Arcs i j + (bif decide ((gt c.Arcs j).Kind.toNat = i) then 1 else 0)) 6 = vecC (fun k => kindN c.Arcs k (j + 1)) 6 := by
        refine qhU (fun k _ => ?_)
        show _ = kindN c.Arcs k j + (bif (gt c.Arcs j).Kind == (k : Int) then 1 else 0)
        congr 2
        rw [Bool.eq_iff_iff]; simp; omega
      rw [this]
      exact hX
  unfold qfT
  rw [show mkS 6 (0 : Int) = some (vecC (fun _ => 0) 6) from qjj (m := 6) (by omega)]
  simp only [Option.bind_some]
  exact Ev.bind hL .done

/-! ### Cells -/

def kindB (c : qv) : Bool :=
  bif c.Kind == 1 then (((clkN c.Pins c.Pins.length : Nat) : Int) == 0) && (((c.Truth.length : Int) == ((2 ^ (c.Pins.length - 1) : Nat) : Int)) && (c.Truth.all fun x => inI x 0 1))
  else bif c.Kind == 2 then (((clkN c.Pins c.Pins.length : Nat) : Int) == 1) && (((c.Truth.length : Int) == 0) && (!hasB c.Arcs 1 && !(hasB c.Arcs 2 == hasB c.Arcs 3)))
  else bif c.Kind == 3 then (((clkN c.Pins c.Pins.length : Nat) : Int) == 1) && (((c.Truth.length : Int) == 0) && (hasB c.Arcs 1 && (hasB c.Arcs 2 && !hasB c.Arcs 3)))
  else false

theorem qms {c : qv} (h : kindB c = true) : clkN c.Pins c.Pins.length ≤ 1 := by
  unfold kindB at h
  cases h1 : (c.Kind == 1)
  · cases h2 : (c.Kind == 2)
    · cases h3 : (c.Kind == 3)
      · rw [h1, h2, h3] at h; cases h
      · rw [h1, h2, h3] at h
        simp only [cond_true, cond_false, Bool.and_eq_true, beq_iff_eq] at h
        omega
    · rw [h1, h2] at h
      simp only [cond_true, cond_false, Bool.and_eq_true, beq_iff_eq] at h
      omega
  · rw [h1] at h
    simp only [cond_true, Bool.and_eq_true, beq_iff_eq] at h
    omega

theorem qnn {m : Nat} (h1 : 2 ≤ m) (h2 : m ≤ 5) : shlS 1 (W64 ((m : Int) - 1)) = some ((2 ^ (m - 1) : Nat) : Int) ∧ shlS 1 (IntKind.wrap .u64 (W64 ((m : Int) - 1))) = some ((2 ^ (m - 1) : Nat) : Int) := by
  have : m = 2 ∨ m = 3 ∨ m = 4 ∨ m = 5 := by omega
  rcases this with rfl | rfl | rfl | rfl <;> exact ⟨by decide, by decide⟩

theorem qnF {c : qv} (hc : qjl c) (hm : 2 ≤ c.Pins.length) (hm5 : c.Pins.length ≤ 5) : Ev (fun n => qdP n c) (kindB c) := by
  have hl := hc.Pins.len
  have hL : Ev (fun n => qaD c n 0 0) (((clkN c.Pins c.Pins.length : Nat) : Int), (c.Pins.length : Int)) := by
    refine loopF (Lf := qaD c) (S := fun j => ((clkN c.Pins j : Nat) : Int)) (len := c.Pins.length) (fun n => ?_) (fun j hj X hX => ?_)
    · simp only [qaD, qu (Nat.le_refl _), cond_false]
    · have hn : clkN c.Pins j ≤ j := qd4
      simp only [qaD, qr hj, cond_true, qam hj, Option.bind_some, qp (show j < 9223372036854775807 by omega), qp (show clkN c.Pins j < 9223372036854775807 by omega)]
      have hck : clkN c.Pins (j + 1) = clkN c.Pins j + (bif (gt c.Pins j).Clock then 1 else 0) := rfl
      rw [hck] at hX
      cases hc : (gt c.Pins j).Clock
      · rw [hc] at hX; exact Ev.ff rfl hX
      · rw [hc] at hX; exact Ev.tt rfl hX
  unfold qdP kindB
  refine Ev.bind hL ?_
  simp only [qbQ, qbi, Option.bind_some, (qnn hm hm5).1]
  have hal := hc.Arcs.len
  refine Ev.iff (fun _ => ?_) (fun _ => Ev.iff (fun _ => ?_) (fun _ => Ev.iff (fun _ => ?_) (fun _ => .done)))
  · exact Ev.andP fun _ => Ev.andP fun _ => Ev.last (qfz hc.Truth.len)
  · exact Ev.andP fun _ => Ev.andP fun _ => Ev.bind (qkC hal) (Ev.andP fun _ => Ev.bind (qkC hal) (Ev.bind (qkC hal) .done))
  · exact Ev.andP fun _ => Ev.andP fun _ => Ev.and (qkC hal) fun _ => Ev.and (qkC hal) fun _ => Ev.bind (qkC hal) .done

def cellB (c : qv) : Bool :=
  nameB c.Name && (pinsB c.Pins && ((allN (fun j => arcI c.Pins (gt c.Arcs j) && newArc c.Arcs j) c.Arcs.length && decide (c.Arcs.length ≤ 8)) && (inI c.Leak 0 100000 && (inI c.Energy 0 100000 && kindB c))))

theorem qoJ {c : qv} (hc : qjl c) : Ev (fun n => qhg n c) (cellB c) := by
  simp only [qhg, qmk hc.Name, qdY, Option.bind_some]
  unfold cellB
  refine Ev.andP fun _ => Ev.and (qok hc.Pins) fun hp => ?_
  obtain ⟨⟨hm, hm5⟩, _⟩ := qhM hp
  exact Ev.and (qog hc.Pins hc.Arcs hm) fun _ => Ev.andP fun _ => Ev.andP fun _ => Ev.last (qnF hc hm hm5)

theorem qn1 {c : qv} (hc : qjl c) : Ev (fun n => qhj n c) (cellB c) := by
  have hal := hc.Arcs.len
  have htl := hc.Truth.len
  have e : cellB c = ((pinsB c.Pins && (nameB c.Name && (decide (c.Arcs.length ≤ 8) && (inI c.Leak 0 100000 && inI c.Energy 0 100000)))) && (allN (fun j => arcS c.Pins (gt c.Arcs j) && newArc c.Arcs j) c.Arcs.length && kindB c)) := by
    unfold cellB
    cases hk : kindB c
    · simp
    · cases hp : pinsB c.Pins
      · simp
      · rw [qf6 (fun j _ => by rw [qpM hp (qms hk)])]
        cases nameB c.Name <;> cases allN (fun j => arcS c.Pins (gt c.Arcs j) && newArc c.Arcs j) c.Arcs.length <;> cases decide (c.Arcs.length ≤ 8) <;> cases inI c.Leak 0 100000 <;> cases inI c.Energy 0 100000 <;> rfl
  rw [e]
  unfold qhj
  refine Ev.bind (qn3 hc.Pins) ?_
  cases hp : pinsB c.Pins
  · exact .done
  · obtain ⟨⟨hm, hm5⟩, _⟩ := qhM hp
    simp only [cond_true, Bool.true_and, Bool.not_true, cond_false]
    refine Ev.guardB ?_ (fun _ => ?_)
    · simp only [qeD, Option.bind_some, qb6]
      refine Ev.orB (qjU hc.Name) fun _ => ?_
      rw [show decide ((c.Arcs.length : Int) > 8) = !decide (c.Arcs.length ≤ 8) by rw [Bool.eq_iff_iff]; simp; omega, qb6]
      exact Ev.orBP fun _ => Ev.orBP fun _ => .done
    · have hL2 : ∀ j, j < c.Arcs.length → Ev (fun n => qb7 c (j : Int) (gt c.Arcs j) n 0) (bif newArc c.Arcs j then .nxt (j : Int) else .ret false) := by
        intro j hj
        refine qeT ?_ (fun i hi X hX => Ev.succ ?_)
        · exact Ev.succ (by simp only [qb7, qu (Nat.le_refl _), cond_false]; exact .done)
        · simp only [qb7, qr hi, cond_true, qam (show i < c.Arcs.length by omega), Option.bind_some, qp (show i < 9223372036854775807 by omega)]
          unfold sameArc
          cases ((gt c.Arcs i).Kind == (gt c.Arcs j).Kind)
          · exact hX
          · cases ((gt c.Arcs i).From == (gt c.Arcs j).From)
            · exact hX
            · cases ((gt c.Arcs i).To == (gt c.Arcs j).To)
              · exact hX
              · exact .done
      have hL1 : Ev (fun n => qc9 c n 0) (bif allN (fun j => arcS c.Pins (gt c.Arcs j) && newArc c.Arcs j) c.Arcs.length then .nxt (c.Arcs.length : Int) else .ret false) := by
        refine qeT ?_ (fun j hj X hX => Ev.succ ?_)
        · exact Ev.succ (by simp only [qc9, qu (Nat.le_refl _), cond_false]; exact .done)
        · simp only [qc9, qr hj, cond_true, qam hj, Option.bind_some, qp (show j < 9223372036854775807 by omega)]
          refine Ev.chk (qoT hc.Pins (qi3 hc.Arcs hj) hm) fun _ => Ev.bind (hL2 j hj) ?_
          cases newArc c.Arcs j
          · exact .done
          · exact hX
      have hL3 : Ev (fun n => qda c n 0) (bif (c.Truth.all fun x => inI x 0 1) then .nxt (c.Truth.length : Int) else .ret false) :=
        qiS (fun n => by simp only [qda, qu (Nat.le_refl _), cond_false]) (fun j hj X hX => by
          simp only [qda, qr hj, cond_true, qfL hj, Option.bind_some, qeD, qp (show j < 9223372036854775807 by omega), qb6]
          exact Ev.okP1 fun _ => hX)
      refine Ev.bind hL1 ?_
      cases hA : allN (fun j => arcS c.Pins (gt c.Arcs j) && newArc c.Arcs j) c.Arcs.length
      · exact .done
      · have hk : ∀ j, j < c.Arcs.length → 1 ≤ (gt c.Arcs j).Kind ∧ (gt c.Arcs j).Kind ≤ 5 := fun j hj => by
          have := qa6.1 hA j hj
          rw [Bool.and_eq_true] at this
          exact qmn this.1
        simp only [cond_true, Bool.true_and]
        refine Ev.bind (qnf hc.Arcs hk) ?_
        simp only [(qnn hm hm5).2, Option.bind_some,
          show idx (vecC (fun k => kindN c.Arcs k c.Arcs.length) 6) (1 : Int) = some ((kindN c.Arcs 1 c.Arcs.length : Nat) : Int) from qhV (k := 1) (by omega),
          show idx (vecC (fun k => kindN c.Arcs k c.Arcs.length) 6) (2 : Int) = some ((kindN c.Arcs 2 c.Arcs.length : Nat) : Int) from qhV (k := 2) (by omega),
          show idx (vecC (fun k => kindN c.Arcs k c.Arcs.length) 6) (3 : Int) = some ((kindN c.Arcs 3 c.Arcs.length : Nat) : Int) from qhV (k := 3) (by omega), qmp, qoq]
        unfold kindB
        refine Ev.iff (fun _ => ?_) (fun _ => Ev.iff (fun _ => ?_) (fun _ => Ev.iff (fun _ => ?_) (fun _ => .done)))
        · refine Ev.bind hL3 ?_
          cases (c.Truth.all fun x => inI x 0 1)
          · exact Ev.now (by simp)
          · exact (Ev.andP (fun _ => .done)).cast (by rw [Bool.and_true])
        · refine (Ev.andP fun _ => Ev.andP fun _ => Ev.andP fun _ => .done).cast ?_
          cases (((clkN c.Pins c.Pins.length : Nat) : Int) == 1) <;> cases ((c.Truth.length : Int) == 0) <;> cases hasB c.Arcs ((1 : Nat) : Int) <;> cases hasB c.Arcs ((2 : Nat) : Int) <;> cases hasB c.Arcs ((3 : Nat) : Int) <;> rfl
        · refine (Ev.andP fun _ => Ev.andP fun _ => Ev.andP fun _ => Ev.andP fun _ => .done).cast ?_
          cases (((clkN c.Pins c.Pins.length : Nat) : Int) == 1) <;> cases ((c.Truth.length : Int) == 0) <;> cases hasB c.Arcs ((1 : Nat) : Int) <;> cases hasB c.Arcs ((2 : Nat) : Int) <;> cases hasB c.Arcs ((3 : Nat) : Int) <;> rfl

/-! ### Libraries -/

def libB (l : qn) : Bool := l.Cells.all cellB && (decide (l.Cells.length ≤ 8) && namesB (l.Cells.map qv.Name))

theorem qmX {l : qn} (h : qf8 l) : Ev (fun n => qfu n l) (libB l) := by
  have hl := h.Cells.len
  have hL : Ev (fun n => qbB l n ([] : List ByteArray) 0) (bif allN (fun j => cellB (gt l.Cells j)) l.Cells.length then .nxt (l.Cells.map qv.Name, (l.Cells.length : Int)) else .ret false) := by
    refine loopN (Lf := qbB l) (S := fun j => (l.Cells.take j).map qv.Name) (fun j => cellB (gt l.Cells j)) (fun n => ?_) (fun j hj hp X hX => ?_)
    · simp only [qbB, qu (Nat.le_refl _), cond_false, List.take_length]
    · simp only [qbB, qr hj, cond_true, qam hj, Option.bind_some, qik hj hl, qfC (g := qv.Name) hj, qp (show j < 9223372036854775807 by omega)]
      exact Ev.chk1 (qoJ (qi3 h.Cells hj)) hX
  unfold qfu libB
  rw [qhs]
  refine Ev.bind hL ?_
  cases allN (fun j => cellB (gt l.Cells j)) l.Cells.length
  · exact .done
  · simp only [cond_true, Bool.true_and, show decide ((l.Cells.length : Int) ≤ 8) = decide (l.Cells.length ≤ 8) from qjk (k := 8)]
    exact Ev.andP fun _ => Ev.last (qhf (qjp h.Cells (fun x hx => hx.Name)))
end Go.Fw


namespace Go.Fw
open Go
set_option maxRecDepth 100000

theorem qn6 {c : qv} (h : cellB c = true) : nameB c.Name = true := by
  unfold cellB at h; rw [Bool.and_eq_true] at h; exact h.1
theorem qlk {c : qv} (h : cellB c = true) : pinsB c.Pins = true := by
  unfold cellB at h; simp only [Bool.and_eq_true] at h; exact h.2.1

theorem ql8 {l : qn} (h : qf8 l) : Ev (fun n => qfr n l) (libB l) := by
  have hl := h.Cells.len
  have hL2 : ∀ j, j < l.Cells.length → Ev (fun n => qb3 l (j : Int) n 0) (bif allN (neB (l.Cells.map qv.Name) j) j then .nxt (j : Int) else .ret false) := by
    intro j hj
    refine qeT ?_ (fun i hi X hX => Ev.succ ?_)
    · exact Ev.succ (by simp only [qb3, qu (Nat.le_refl _), cond_false]; exact .done)
    · simp only [qb3, qr hi, cond_true, qam (show i < l.Cells.length by omega), qam hj, Option.bind_some, qf0, qp (show i < 9223372036854775807 by omega)]
      unfold neB
      rw [qhJ (g := qv.Name) (show i < l.Cells.length by omega), qhJ (g := qv.Name) hj]
      exact Ev.chkP1 (fun _ => hX)
  have hL1 : Ev (fun n => qb5 l n 0) (bif allN (fun j => cellB (gt l.Cells j) && allN (neB (l.Cells.map qv.Name) j) j) l.Cells.length then .nxt (l.Cells.length : Int) else .ret false) := by
    refine qeT ?_ (fun j hj X hX => Ev.succ ?_)
    · exact Ev.succ (by simp only [qb5, qu (Nat.le_refl _), cond_false]; exact .done)
    · simp only [qb5, qr hj, cond_true, qam hj, Option.bind_some, qp (show j < 9223372036854775807 by omega)]
      refine Ev.chk (qn1 (qi3 h.Cells hj)) fun _ => Ev.bind (hL2 j hj) ?_
      cases allN (neB (l.Cells.map qv.Name) j) j
      · exact .done
      · exact hX
  have e : libB l = (allN (fun j => cellB (gt l.Cells j) && allN (neB (l.Cells.map qv.Name) j) j) l.Cells.length && decide (l.Cells.length ≤ 8)) := by
    unfold libB namesB
    rw [qhs, List.length_map, Bool.and_comm (decide (l.Cells.length ≤ 8)), ← Bool.and_assoc, ← qiW]
    congr 1
    refine qf6 (fun j hj => ?_)
    rw [qhJ (g := qv.Name) hj]
    cases hc : cellB (gt l.Cells j)
    · rfl
    · rw [qn6 hc]; rfl
  rw [e]
  unfold qfr
  refine Ev.bind hL1 ?_
  cases allN (fun j => cellB (gt l.Cells j) && allN (neB (l.Cells.map qv.Name) j) j) l.Cells.length
  · exact .done
  · refine Ev.now ?_
    show some (decide ((l.Cells.length : Int) ≤ ((8 : Nat) : Int))) = some (true && decide (l.Cells.length ≤ 8))
    rw [qjk, Bool.true_and]

theorem qig {c c' : Nat → Nat} {m : Nat} {x : Int} (h0 : 0 ≤ x) (h1 : x < m) (hc : c x.toNat < 9223372036854775807) (he : ∀ k, k < m → c' k = c k + (bif x == (k : Int) then 1 else 0)) :
    idx (vecC c m) x = some (c x.toNat : Int) ∧ setS (vecC c m) x (W64 ((c x.toNat : Int) + 1)) = vecC c' m := by
  have ex : x = (x.toNat : Int) := qjJ h0
  have e1 := qhV (c := c) (m := m) (k := x.toNat) (by omega)
  have e2 := qmr (c := c) (m := m) (k := x.toNat) hc
  rw [← ex] at e1 e2
  refine ⟨e1, e2.trans (qhU (fun k hk => ?_))⟩
  rw [he k hk]
  congr 2
  rw [Bool.eq_iff_iff]; simp; omega

/-! ### Parts of a design -/

def netB (d : qg) (x : Int) : Bool := inI x 0 ((d.Nets.length : Int) - 1)
theorem qny {n : Nat} {d : qg} {x : Int} (hl : d.Nets.length ≤ 1048576) : qcH n d x = some (netB d x) := by
  simp only [qcH, qeQ, Option.bind_some, qdY, qdm (show d.Nets.length ≤ 9223372036854775807 by omega)]; rfl
theorem qmG {n : Nat} {d : qg} {x : Int} (hl : d.Nets.length ≤ 1048576) : qaE n x 0 (W64 ((d.Nets.length : Int) - 1)) = some (netB d x) := by
  rw [qeD, qdm (show d.Nets.length ≤ 9223372036854775807 by omega)]; rfl

def hasNamesB (d : qg) : Bool := (decide (d.Instances.length ≤ 14) && (decide (d.Nets.length ≤ 30) && decide (d.Ports.length ≤ 8))) && (namesB (d.Instances.map ql.Name) && (namesB d.Nets && namesB (d.Ports.map qW.Name)))

theorem qnO {d : qg} (h : qhG d) : Ev (fun n => qdd n d) (hasNamesB d) := by
  have hli := h.Instances.len
  have hlp := h.Ports.len
  have hL1 : Ev (fun n => qaB d n ([] : List ByteArray) 0) (d.Instances.map ql.Name, (d.Instances.length : Int)) := by
    refine loopF (Lf := qaB d) (S := fun j => (d.Instances.take j).map ql.Name) (len := d.Instances.length) (fun n => ?_) (fun j hj X hX => ?_)
    · simp only [qaB, qu (Nat.le_refl _), cond_false, List.take_length]
    · simpa only [qaB, qr hj, cond_true, qam hj, Option.bind_some, qik hj hli, qfC (g := ql.Name) hj, qp (show j < 9223372036854775807 by omega)] using hX
  have hL2 : Ev (fun n => qaC d n ([] : List ByteArray) 0) (d.Ports.map qW.Name, (d.Ports.length : Int)) := by
    refine loopF (Lf := qaC d) (S := fun j => (d.Ports.take j).map qW.Name) (len := d.Ports.length) (fun n => ?_) (fun j hj X hX => ?_)
    · simp only [qaC, qu (Nat.le_refl _), cond_false, List.take_length]
    · simpa only [qaC, qr hj, cond_true, qam hj, Option.bind_some, qik hj hlp, qfC (g := qW.Name) hj, qp (show j < 9223372036854775807 by omega)] using hX
  unfold qdd hasNamesB
  refine Ev.bind hL1 (Ev.bind hL2 ?_)
  simp only [List.length_map]
  rw [show decide ((d.Instances.length : Int) ≤ 14) = decide (d.Instances.length ≤ 14) from qjk (k := 14), show decide ((d.Nets.length : Int) ≤ 30) = decide (d.Nets.length ≤ 30) from qjk (k := 30), show decide ((d.Ports.length : Int) ≤ 8) = decide (d.Ports.length ≤ 8) from qjk (k := 8)]
  rw [Bool.and_assoc, Bool.and_assoc]
  exact Ev.andP fun _ => Ev.andP fun _ => Ev.andP fun _ => Ev.and (qhf (qjp h.Instances (fun x hx => hx.Name))) fun _ => Ev.and (qhf h.Nets) fun _ => Ev.last (qhf (qjp h.Ports (fun x hx => hx.Name)))

def instB (l : qn) (d : qg) (x : ql) : Bool := inI x.Cell 0 ((l.Cells.length : Int) - 1) && (((x.Nets.length : Int) == ((gt l.Cells x.Cell.toNat).Pins.length : Int)) && x.Nets.all (netB d))

theorem qme {d : qg} {l : qn} {x : ql} (hn : d.Nets.length ≤ 1048576) (hc : l.Cells.length ≤ 1048576) (hx : x.Nets.length ≤ 1048576) : Ev (fun n => qcG n d l x) (instB l d x) := by
  simp only [qcG, qdU, Option.bind_some, qdY, qdm (show l.Cells.length ≤ 9223372036854775807 by omega)]
  unfold instB
  refine Ev.andP fun hI => ?_
  rw [qcE] at hI
  rw [qft hI.1 (by omega)]
  simp only [Option.bind_some]
  refine Ev.andP fun _ => Ev.bind (b := x.Nets.any fun y => !netB d y) ?_ (Ev.now (by rw [qle]))
  unfold qal
  exact Ev.bind (b := ixL (fun y => !netB d y) x.Nets) (qfp (fin := (x.Nets.length : Int)) (Lf := qI x.Nets d) (pf := fun n y => qb8 n y d) (fun y _ => ⟨0, fun n _ => by simp only [qb8, qny hn, Option.bind_some]⟩)
      (fun n => by simp only [qI, qu (Nat.le_refl _), cond_false])
      (fun n j y hx => by
        have hj := (List.getElem?_eq_some_iff.1 hx).1
        simp only [qI, qr hj, cond_true, qat hx, Option.bind_some, qp (show j < 9223372036854775807 by omega)])
      (fun n => by unfold qar; congr 1; funext o; cases o <;> rfl)) (Ev.now (by rw [qjc]))

def portB (d : qg) (p : qW) : Bool := inI p.Dir 1 2 && netB d p.Net
theorem qqW {x : Int} : inI x 1 2 = ((x == 1) || (x == 2)) := by
  unfold inI; rw [Bool.eq_iff_iff]; simp; omega

/-- The net that an instance drives. -/
def lastN (x : ql) : Int := at0 x.Nets (x.Nets.length - 1)
theorem qnP {x : ql} (h1 : 1 ≤ x.Nets.length) (h2 : x.Nets.length ≤ 1048576) : idx x.Nets (W64 ((x.Nets.length : Int) - 1)) = some (lastN x) := by
  rw [qdm (by omega), show ((x.Nets.length : Int) - 1) = ((x.Nets.length - 1 : Nat) : Int) by omega, qdp (by omega)]; rfl
theorem qoZ {d : qg} {x : ql} (h1 : 1 ≤ x.Nets.length) (h : x.Nets.all (netB d) = true) : 0 ≤ lastN x ∧ lastN x < d.Nets.length := by
  rw [qhp (d := 0), qa6] at h
  have := h (x.Nets.length - 1) (by omega)
  unfold netB at this
  rw [qcE] at this
  unfold lastN at0
  omega
theorem qlu {l : qn} {d : qg} {x : ql} (hl : libB l = true) (h : instB l d x = true) : 1 ≤ x.Nets.length ∧ 0 ≤ lastN x ∧ lastN x < d.Nets.length := by
  unfold instB at h
  simp only [Bool.and_eq_true, qcE, beq_iff_eq] at h
  obtain ⟨h1, h2, h3⟩ := h
  unfold libB at hl
  simp only [Bool.and_eq_true] at hl
  have hc := hl.1
  rw [qhs, qa6] at hc
  have := qhM (qlk (hc x.Cell.toNat (by omega)))
  have h4 : 1 ≤ x.Nets.length := by omega
  exact ⟨h4, qoZ h4 h3⟩

def drvI (d : qg) (k j : Nat) : Nat := cntP (fun i => lastN (gt d.Instances i) == (k : Int)) j
def drvP (d : qg) (k j : Nat) : Nat := cntP (fun i => ((gt d.Ports i).Dir == 1) && ((gt d.Ports i).Net == (k : Int))) j
def drvB (d : qg) : Bool := allN (fun k => ((drvI d k d.Instances.length + drvP d k d.Ports.length : Nat) : Int) == 1) d.Nets.length
def designB (l : qn) (d : qg) : Bool := (libB l && hasNamesB d) && (d.Instances.all (instB l d) && (d.Ports.all (portB d) && drvB d))

theorem qkw {d : qg} {k j : Nat} : drvI d k (j + 1) = drvI d k j + (bif lastN (gt d.Instances j) == (k : Int) then 1 else 0) := rfl
theorem qjm {d : qg} {k j : Nat} : drvP d k (j + 1) = drvP d k j + (bif ((gt d.Ports j).Dir == 1) && ((gt d.Ports j).Net == (k : Int)) then 1 else 0) := rfl

theorem qnG {l : qn} {d : qg} (h : qf8 l) (hd : qhG d) : Ev (fun n => qfO n l d) (designB l d) := by
  have hli := hd.Instances.len
  have hlp := hd.Ports.len
  have hln := hd.Nets.len
  have hlc := h.Cells.len
  unfold qfO designB
  refine Ev.guardB (Ev.or (qmX h) fun _ => Ev.neg (qnO hd)) fun hb => ?_
  rw [Bool.and_eq_true] at hb
  rw [qjj (m := d.Nets.length) (by omega)]
  simp only [Option.bind_some]
  have hL1 : Ev (fun n => qbR l d n (vecC (fun _ => 0) d.Nets.length) 0) (bif allN (fun j => instB l d (gt d.Instances j)) d.Instances.length then .nxt (vecC (fun k => drvI d k d.Instances.length) d.Nets.length, (d.Instances.length : Int)) else .ret false) := by
    refine loopN (Lf := qbR l d) (S := fun j => vecC (fun k => drvI d k j) d.Nets.length) (fun j => instB l d (gt d.Instances j)) (fun n => ?_) (fun j hj hp X hX => ?_)
    · simp only [qbR, qu (Nat.le_refl _), cond_false]
    · simp only [qbR, qr hj, cond_true, qam hj, Option.bind_some, qp (show j < 9223372036854775807 by omega)]
      have hxl := (qi3 hd.Instances hj).Nets.len
      refine Ev.chk1 (qme hln hlc hxl) fun hi => ?_
      obtain ⟨h1, h2, h3⟩ := qlu hb.1 hi
      have hc : drvI d (lastN (gt d.Instances j)).toNat j ≤ j := qd4
      obtain ⟨e1, e2⟩ := qig (c := fun k => drvI d k j) (c' := fun k => drvI d k (j + 1)) h2 h3 (by show drvI _ _ _ < _; omega) (fun k _ => qkw)
      simp only [qnP h1 hxl, Option.bind_some, e1, e2]
      exact hX hi
  have hL2 : Ev (fun n => qbq d n (vecC (fun k => drvI d k d.Instances.length) d.Nets.length) 0) (bif allN (fun j => portB d (gt d.Ports j)) d.Ports.length then .nxt (vecC (fun k => drvI d k d.Instances.length + drvP d k d.Ports.length) d.Nets.length, (d.Ports.length : Int)) else .ret false) := by
    refine loopN (Lf := qbq d) (S := fun j => vecC (fun k => drvI d k d.Instances.length + drvP d k j) d.Nets.length) (fun j => portB d (gt d.Ports j)) (fun n => ?_) (fun j hj hp X hX => ?_)
    · simp only [qbq, qu (Nat.le_refl _), cond_false]
    · simp only [qbq, qr hj, cond_true, qam hj, Option.bind_some, qny hln, bne, qp (show j < 9223372036854775807 by omega)]
      refine Ev.chkT1 ?_ fun hi => ?_
      · unfold portB
        rw [qqW]
        cases ((gt d.Ports j).Dir == 1) <;> cases ((gt d.Ports j).Dir == 2) <;> exact .done
      · have hX := hX hi
        unfold portB netB at hi
        simp only [Bool.and_eq_true, qcE] at hi
        have hc1 : drvI d (gt d.Ports j).Net.toNat d.Instances.length ≤ d.Instances.length := qd4
        have hc2 : drvP d (gt d.Ports j).Net.toNat j ≤ j := qd4
        cases h1 : ((gt d.Ports j).Dir == 1)
        · have : vecC (fun k => drvI d k d.Instances.length + drvP d k (j + 1)) d.Nets.length = vecC (fun k => drvI d k d.Instances.length + drvP d k j) d.Nets.length := by
            refine qhU (fun k _ => ?_)
            rw [qjm, h1]; rfl
          rw [this] at hX
          exact hX
        · obtain ⟨e1, e2⟩ := qig (c := fun k => drvI d k d.Instances.length + drvP d k j) (c' := fun k => drvI d k d.Instances.length + drvP d k (j + 1)) (x := (gt d.Ports j).Net) (m := d.Nets.length) hi.2.1 (by omega) (by show drvI _ _ _ + drvP _ _ _ < _; omega) (fun k _ => by rw [qjm, h1, Bool.true_and]; omega)
          simp only [cond_true, Option.bind_some, e1, e2]
          exact hX
  rw [qhs, qhs]
  refine Ev.bind hL1 ?_
  cases allN (fun j => instB l d (gt d.Instances j)) d.Instances.length
  · exact .done
  · refine Ev.bind hL2 ?_
    cases allN (fun j => portB d (gt d.Ports j)) d.Ports.length
    · exact .done
    · simp only [cond_true, Bool.true_and]
      unfold qa3
      refine Ev.bind (b := (vecC (fun k => drvI d k d.Instances.length + drvP d k d.Ports.length) d.Nets.length).any fun x => !(x == 1)) (Ev.bind (b := ixL (fun x => !(x == 1)) (vecC (fun k => drvI d k d.Instances.length + drvP d k d.Ports.length) d.Nets.length)) (qfp (fin := (((vecC (fun k => drvI d k d.Instances.length + drvP d k d.Ports.length) d.Nets.length).length : Nat) : Int)) (Lf := qR (vecC (fun k => drvI d k d.Instances.length + drvP d k d.Ports.length) d.Nets.length)) (pf := fun n y => qf3 n y) (fun y _ => .done)
        (fun n => by simp only [qR, qu (Nat.le_refl _), cond_false])
        (fun n j y hx => by
          have hj := (List.getElem?_eq_some_iff.1 hx).1
          have : j < d.Nets.length := by rw [qiY] at hj; exact hj
          simp only [qR, qr hj, cond_true, qat hx, Option.bind_some, qp (show j < 9223372036854775807 by omega)])
        (fun n => by unfold qbc; congr 1; funext o; cases o <;> rfl)) (Ev.now (by rw [qjc]))) (Ev.now ?_)
      rw [qle, qhp (d := 0), qiY]
      unfold drvB
      congr 1
      exact qf6 (fun k hk => by
        have := qnv (c := fun k => drvI d k d.Instances.length + drvP d k d.Ports.length) hk
        unfold at0 at this
        rw [this])

theorem qnD {l : qn} {d : qg} (h : qf8 l) (hd : qhG d) : Ev (fun n => qfZ n l d) (d.Instances.all (instB l d) && d.Ports.all (portB d)) := by
  have hli := hd.Instances.len
  have hlp := hd.Ports.len
  have hln := hd.Nets.len
  have hlc := h.Cells.len
  have hL2 : ∀ x : ql, x.Nets.length ≤ 1048576 → Ev (fun n => qcl d x n 0) (bif x.Nets.all (netB d) then .nxt (x.Nets.length : Int) else .ret false) := fun x hx =>
    qiS (fun n => by simp only [qcl, qu (Nat.le_refl _), cond_false]) (fun j hj X hX => by
      simp only [qcl, qr hj, cond_true, qfL hj, Option.bind_some, qmG hln, qp (show j < 9223372036854775807 by omega), qb6]
      exact Ev.okP1 fun _ => hX)
  have hL1 : Ev (fun n => qch l d n 0) (bif allN (fun j => instB l d (gt d.Instances j)) d.Instances.length then .nxt (d.Instances.length : Int) else .ret false) := by
    refine qeT ?_ (fun j hj X hX => Ev.succ ?_)
    · exact Ev.succ (by simp only [qch, qu (Nat.le_refl _), cond_false]; exact .done)
    · simp only [qch, qr hj, cond_true, qam hj, Option.bind_some, qeD, qdm (show l.Cells.length ≤ 9223372036854775807 by omega), qp (show j < 9223372036854775807 by omega), bne]
      have hxl := (qi3 hd.Instances hj).Nets.len
      unfold instB
      rw [← Bool.and_assoc]
      refine Ev.chkT ?_ fun _ => Ev.bind (hL2 _ hxl) ?_
      · simp only [qb6]
        refine Ev.orBP fun hI => ?_
        rw [qcE] at hI
        rw [qft hI.1 (by omega)]
        exact .done
      · cases (gt d.Instances j).Nets.all (netB d)
        · exact .done
        · exact hX
  have hL3 : Ev (fun n => qcp d n 0) (bif allN (fun j => portB d (gt d.Ports j)) d.Ports.length then .nxt (d.Ports.length : Int) else .ret false) := by
    refine qeT ?_ (fun j hj X hX => Ev.succ ?_)
    · exact Ev.succ (by simp only [qcp, qu (Nat.le_refl _), cond_false]; exact .done)
    · simp only [qcp, qr hj, cond_true, qam hj, Option.bind_some, qmG hln, qp (show j < 9223372036854775807 by omega)]
      simp only [qeD, Option.bind_some, qb6]
      unfold portB
      exact Ev.okP fun _ => Ev.okP1 fun _ => hX
  unfold qfZ
  rw [qhs, qhs]
  refine Ev.bind hL1 ?_
  cases allN (fun j => instB l d (gt d.Instances j)) d.Instances.length
  · exact .done
  · refine Ev.bind hL3 ?_
    cases allN (fun j => portB d (gt d.Ports j)) d.Ports.length <;> exact .done

theorem qj4 {l : qn} {d : qg} (h : qf8 l) (hd : qhG d) : Ev (fun n => qe3 n l d) (designB l d) := by
  have hli := hd.Instances.len
  have hlp := hd.Ports.len
  have hln := hd.Nets.len
  have hlc := h.Cells.len
  have e : designB l d = ((libB l && (decide (d.Instances.length ≤ 14) && (decide (d.Nets.length ≤ 30) && (decide (d.Ports.length ≤ 8) && (d.Instances.all (instB l d) && d.Ports.all (portB d)))))) && ((namesB (d.Instances.map ql.Name) && (namesB (d.Ports.map qW.Name) && namesB d.Nets)) && drvB d)) := by
    unfold designB hasNamesB
    generalize libB l = a1
    generalize decide (d.Instances.length ≤ 14) = a2
    generalize decide (d.Nets.length ≤ 30) = a3
    generalize decide (d.Ports.length ≤ 8) = a4
    generalize d.Instances.all (instB l d) = a5
    generalize d.Ports.all (portB d) = a6
    generalize namesB (d.Instances.map ql.Name) = a7
    generalize namesB (d.Ports.map qW.Name) = a8
    generalize namesB d.Nets = a9
    generalize drvB d = a10
    rw [Bool.eq_iff_iff]
    simp only [Bool.and_eq_true]
    constructor
    · rintro ⟨⟨h1, ⟨h2, h3, h4⟩, h7, h9, h8⟩, h5, h6, h10⟩
      exact ⟨⟨h1, h2, h3, h4, h5, h6⟩, ⟨h7, h8, h9⟩, h10⟩
    · rintro ⟨⟨h1, h2, h3, h4, h5, h6⟩, ⟨h7, h8, h9⟩, h10⟩
      exact ⟨⟨h1, ⟨h2, h3, h4⟩, h7, h9, h8⟩, h5, h6, h10⟩
  rw [e]
  unfold qe3
  refine Ev.guardB ?_ fun hb => ?_
  · refine Ev.or (ql8 h) fun _ => ?_
    rw [show decide ((d.Instances.length : Int) > 14) = !decide (d.Instances.length ≤ 14) by rw [Bool.eq_iff_iff]; simp; omega, show decide ((d.Nets.length : Int) > 30) = !decide (d.Nets.length ≤ 30) by rw [Bool.eq_iff_iff]; simp; omega, show decide ((d.Ports.length : Int) > 8) = !decide (d.Ports.length ≤ 8) by rw [Bool.eq_iff_iff]; simp; omega]
    simp only [qb6]
    exact Ev.orBP fun _ => Ev.orBP fun _ => Ev.orBP fun _ => Ev.neg (qnD h hd)
  · simp only [Bool.and_eq_true] at hb
    obtain ⟨hlib, _, _, _, hI, hP⟩ := hb
    rw [qhs, qa6] at hI hP
    have hL1 : Ev (fun n => qbP d n ([] : List ByteArray) 0) (d.Instances.map ql.Name, (d.Instances.length : Int)) := by
      refine loopF (Lf := qbP d) (S := fun j => (d.Instances.take j).map ql.Name) (len := d.Instances.length) (fun n => ?_) (fun j hj X hX => ?_)
      · simp only [qbP, qu (Nat.le_refl _), cond_false, List.take_length]
      · simpa only [qbP, qr hj, cond_true, qam hj, Option.bind_some, qik hj hli, qfC (g := ql.Name) hj, qp (show j < 9223372036854775807 by omega)] using hX
    have hL2 : Ev (fun n => qbT d n ([] : List ByteArray) 0) (d.Ports.map qW.Name, (d.Ports.length : Int)) := by
      refine loopF (Lf := qbT d) (S := fun j => (d.Ports.take j).map qW.Name) (len := d.Ports.length) (fun n => ?_) (fun j hj X hX => ?_)
      · simp only [qbT, qu (Nat.le_refl _), cond_false, List.take_length]
      · simpa only [qbT, qr hj, cond_true, qam hj, Option.bind_some, qik hj hlp, qfC (g := qW.Name) hj, qp (show j < 9223372036854775807 by omega)] using hX
    have hL3 : Ev (fun n => qbS d n (vecC (fun _ => 0) d.Nets.length) 0) (vecC (fun k => drvI d k d.Instances.length) d.Nets.length, (d.Instances.length : Int)) := by
      refine loopF (Lf := qbS d) (S := fun j => vecC (fun k => drvI d k j) d.Nets.length) (len := d.Instances.length) (fun n => ?_) (fun j hj X hX => ?_)
      · simp only [qbS, qu (Nat.le_refl _), cond_false]
      · have hxl := (qi3 hd.Instances hj).Nets.len
        obtain ⟨h1, h2, h3⟩ := qlu hlib (hI j hj)
        have hc : drvI d (lastN (gt d.Instances j)).toNat j ≤ j := qd4
        obtain ⟨e1, e2⟩ := qig (c := fun k => drvI d k j) (c' := fun k => drvI d k (j + 1)) h2 h3 (by show drvI _ _ _ < _; omega) (fun k _ => qkw)
        simpa only [qbS, qr hj, cond_true, qam hj, Option.bind_some, qp (show j < 9223372036854775807 by omega), qnP h1 hxl, e1, e2] using hX
    have hL4 : Ev (fun n => qbn d n (vecC (fun k => drvI d k d.Instances.length) d.Nets.length) 0) (vecC (fun k => drvI d k d.Instances.length + drvP d k d.Ports.length) d.Nets.length, (d.Ports.length : Int)) := by
      refine loopF (Lf := qbn d) (S := fun j => vecC (fun k => drvI d k d.Instances.length + drvP d k j) d.Nets.length) (len := d.Ports.length) (fun n => ?_) (fun j hj X hX => ?_)
      · simp only [qbn, qu (Nat.le_refl _), cond_false]
      · have hi := hP j hj
        unfold portB netB at hi
        simp only [Bool.and_eq_true, qcE] at hi
        have hc1 : drvI d (gt d.Ports j).Net.toNat d.Instances.length ≤ d.Instances.length := qd4
        have hc2 : drvP d (gt d.Ports j).Net.toNat j ≤ j := qd4
        simp only [qbn, qr hj, cond_true, qam hj, Option.bind_some, qp (show j < 9223372036854775807 by omega)]
        cases h1 : ((gt d.Ports j).Dir == 1)
        · have : vecC (fun k => drvI d k d.Instances.length + drvP d k (j + 1)) d.Nets.length = vecC (fun k => drvI d k d.Instances.length + drvP d k j) d.Nets.length := by
            refine qhU (fun k _ => ?_)
            rw [qjm, h1]; rfl
          rw [this] at hX
          exact hX
        · obtain ⟨e1, e2⟩ := qig (c := fun k => drvI d k d.Instances.length + drvP d k j) (c' := fun k => drvI d k d.Instances.length + drvP d k (j + 1)) (x := (gt d.Ports j).Net) (m := d.Nets.length) hi.2.1 (by omega) (by show drvI _ _ _ + drvP _ _ _ < _; omega) (fun k _ => by rw [qjm, h1, Bool.true_and]; omega)
          simp only [cond_true, Option.bind_some, e1, e2]
          exact hX
    have hL5 : Ev (fun n => qcs (vecC (fun _ => 0) d.Nets.length) (vecC (fun k => drvI d k d.Instances.length + drvP d k d.Ports.length) d.Nets.length) n 0) (bif drvB d then .nxt (d.Nets.length : Int) else .ret false) := by
      refine qeT ?_ (fun j hj X hX => Ev.succ ?_)
      · exact Ev.succ (by simp only [qcs, qiY, qu (Nat.le_refl _), cond_false]; exact .done)
      · simp only [qcs, qiY, qr hj, cond_true, qhV hj, Option.bind_some, bne, qb6, qp (show j < 9223372036854775807 by omega)]
        exact Ev.okP1 fun _ => hX
    refine Ev.bind hL1 (Ev.bind hL2 ?_)
    refine Ev.guardB (Ev.or (qi4 (qjp hd.Instances (fun x hx => hx.Name))) fun _ => Ev.or (qi4 (qjp hd.Ports (fun x hx => hx.Name))) fun _ => Ev.neg (qi4 hd.Nets)) fun _ => ?_
    rw [qjj (m := d.Nets.length) (by omega)]
    simp only [Option.bind_some]
    refine Ev.bind hL3 (Ev.bind hL4 (Ev.bind hL5 ?_))
    cases drvB d <;> exact .done
end Go.Fw


namespace Go.Fw
open Go
set_option maxRecDepth 100000

theorem qqn {m k : Nat} : decide ((m : Int) < (k : Int)) = !decide (k ≤ m) := by rw [Bool.eq_iff_iff]; simp
theorem qqb {m k : Nat} : decide ((m : Int) > (k : Int)) = !decide (m ≤ k) := by rw [Bool.eq_iff_iff]; simp
/-! ### Wires -/

def treeB (w : qQ) (j : Nat) : Bool := bif decide (j = 0) then (at0 w.Parent j == -1) && (at0 w.Res j == 0) else inI (at0 w.Parent j) 0 ((j : Int) - 1)
def wireB (w : qQ) (s : Int) : Bool :=
  lenB w.Parent 1 8 && (((w.Res.length : Int) == (w.Parent.length : Int)) && (((w.Cap.length : Int) == (w.Parent.length : Int)) && (allN (treeB w) w.Parent.length &&
    ((w.Res.all fun x => inI x 0 1000) && ((w.Cap.all fun x => inI x 0 500) && (((w.Sink.length : Int) == s) && (w.Sink.all fun x => inI x 0 ((w.Parent.length : Int) - 1))))))))

theorem qo1 {w : qQ} (hl : w.Parent.length ≤ 1048576) (hr : ((w.Res.length : Int) == (w.Parent.length : Int)) = true) : Ev (fun n => qes n w) (allN (treeB w) w.Parent.length) := by
  rw [beq_iff_eq] at hr
  have hL : Ev (fun n => qaJ w n 0) (bif allN (treeB w) w.Parent.length then .nxt (w.Parent.length : Int) else .ret false) := by
    refine qeT ?_ (fun j hj X hX => Ev.succ ?_)
    · exact Ev.succ (by simp only [qaJ, qu (Nat.le_refl _), cond_false]; exact .done)
    · simp only [qaJ, qr hj, cond_true, qdp hj, Option.bind_some, qdY, qp (show j < 9223372036854775807 by omega), bne, qb6]
      unfold treeB
      by_cases h0 : j = 0
      · subst h0
        rw [show idx w.Res (0 : Int) = some (at0 w.Res 0) from qdp (j := 0) (by omega)]
        simp only [Option.bind_some]
        refine Ev.tt (by simp) (Ev.okP fun _ => Ev.okP1 fun _ => Ev.ff (by simp) hX)
      · have e1 : decide (j = 0) = false := by simp; omega
        have e2 : ((j : Int) == 0) = false := by simp; omega
        have e3 : decide ((j : Int) > 0) = true := by simp; omega
        rw [e1, e2, e3, qdm (show j ≤ 9223372036854775807 by omega)]
        simp only [cond_false, cond_true]
        exact Ev.okP1 fun _ => hX
  unfold qes
  refine Ev.bind hL ?_
  cases allN (treeB w) w.Parent.length <;> exact .done

theorem qoO {w : qQ} {s : Int} (h : qke w) : Ev (fun n => qhm n w s) (wireB w s) := by
  have hl := h.Parent.len
  simp only [qhm, qa7, Option.bind_some, qdY, qdm (show w.Parent.length ≤ 9223372036854775807 by omega)]
  unfold wireB
  rw [show inI (w.Parent.length : Int) 1 8 = lenB w.Parent 1 8 from qmK (lo := 1) (hi := 8)]
  exact Ev.andP fun _ => Ev.andP fun hr => Ev.andP fun _ => Ev.and (qo1 hl hr) fun _ => Ev.and (qfz h.Res.len) fun _ => Ev.and (qfz h.Cap.len) fun _ => Ev.andP fun _ => Ev.last (qfz h.Sink.len)

theorem qnQ {w : qQ} {s : Int} (h : qke w) : Ev (fun n => qhk n w s) (wireB w s) := by
  have hl := h.Parent.len
  have hsl := h.Sink.len
  have e : wireB w s = ((decide (1 ≤ w.Parent.length) && (decide (w.Parent.length ≤ 8) && (((w.Res.length : Int) == (w.Parent.length : Int)) && (((w.Cap.length : Int) == (w.Parent.length : Int)) && ((w.Sink.length : Int) == s))))) && (allN (fun j => (inI (at0 w.Cap j) 0 500 && inI (at0 w.Res j) 0 1000) && treeB w j) w.Parent.length && (w.Sink.all fun x => inI x 0 ((w.Parent.length : Int) - 1)))) := by
    unfold wireB lenB
    cases h1 : ((w.Res.length : Int) == (w.Parent.length : Int))
    · simp
    · cases h2 : ((w.Cap.length : Int) == (w.Parent.length : Int))
      · simp
      · rw [beq_iff_eq] at h1 h2
        rw [qiW, qiW]
        rw [qhp (p := fun x => inI x 0 1000) (d := 0), qhp (p := fun x => inI x 0 500) (d := 0), show w.Res.length = w.Parent.length by omega, show w.Cap.length = w.Parent.length by omega]
        show _ = (_ && ((allN (fun j => inI (w.Cap.getD j 0) 0 500) _ && allN (fun j => inI (w.Res.getD j 0) 0 1000) _ && _) && _))
        generalize allN (fun j => inI (w.Cap.getD j 0) 0 500) w.Parent.length = a1
        generalize allN (fun j => inI (w.Res.getD j 0) 0 1000) w.Parent.length = a2
        generalize allN (fun j => treeB w j) w.Parent.length = a3
        generalize ((w.Sink.length : Int) == s) = a4
        generalize decide (1 ≤ w.Parent.length) = a5
        generalize decide (w.Parent.length ≤ 8) = a6
        generalize (w.Sink.all fun x => inI x 0 ((w.Parent.length : Int) - 1)) = a7
        cases a1 <;> cases a2 <;> cases a3 <;> cases a4 <;> cases a5 <;> cases a6 <;> rfl
  rw [e]
  unfold qhk
  refine Ev.guardB ?_ fun hb => ?_
  · rw [show decide ((w.Parent.length : Int) < 1) = !decide (1 ≤ w.Parent.length) from qqn (k := 1), show decide ((w.Parent.length : Int) > 8) = !decide (w.Parent.length ≤ 8) from qqb (k := 8)]
    simp only [bne, qb6]
    exact Ev.orBP fun _ => Ev.orBP fun _ => Ev.orBP fun _ => Ev.orBP fun _ => .done
  · simp only [Bool.and_eq_true, beq_iff_eq] at hb
    have hL1 : Ev (fun n => qbG w n 0) (bif allN (fun j => (inI (at0 w.Cap j) 0 500 && inI (at0 w.Res j) 0 1000) && treeB w j) w.Parent.length then .nxt (w.Parent.length : Int) else .ret false) := by
      refine qeT ?_ (fun j hj X hX => Ev.succ ?_)
      · exact Ev.succ (by simp only [qbG, qu (Nat.le_refl _), cond_false]; exact .done)
      · simp only [qbG, qr hj, cond_true, qdp hj, qdp (show j < w.Cap.length by omega), qdp (show j < w.Res.length by omega), Option.bind_some, qeD, qp (show j < 9223372036854775807 by omega), bne, qb6]
        refine Ev.chkT (Ev.orBP fun _ => .done) fun _ => ?_
        unfold treeB
        by_cases h0 : j = 0
        · subst h0
          refine Ev.tt (by simp) (Ev.okP fun _ => Ev.okP1 fun _ => Ev.ff (by simp) hX)
        · have e1 : decide (j = 0) = false := by simp; omega
          have e2 : ((j : Int) == 0) = false := by simp; omega
          have e3 : decide ((j : Int) > 0) = true := by simp; omega
          rw [e1, e2, e3, qdm (show j ≤ 9223372036854775807 by omega)]
          simp only [cond_false, cond_true]
          exact Ev.okP1 fun _ => hX
    have hL2 : Ev (fun n => qdh w n 0) (bif (w.Sink.all fun x => inI x 0 ((w.Parent.length : Int) - 1)) then .nxt (w.Sink.length : Int) else .ret false) :=
      qiS (fun n => by simp only [qdh, qu (Nat.le_refl _), cond_false]) (fun j hj X hX => by
        simp only [qdh, qr hj, cond_true, qfL hj, Option.bind_some, qeD, qdm (show w.Parent.length ≤ 9223372036854775807 by omega), qp (show j < 9223372036854775807 by omega), qb6]
        exact Ev.okP1 fun _ => hX)
    refine Ev.bind hL1 ?_
    cases allN (fun j => (inI (at0 w.Cap j) 0 500 && inI (at0 w.Res j) 0 1000) && treeB w j) w.Parent.length
    · exact .done
    · refine Ev.bind hL2 ?_
      cases (w.Sink.all fun x => inI x 0 ((w.Parent.length : Int) - 1)) <;> exact .done

/-! ### Places -/

instance : Inhabited Tplace := ⟨⟨0, 0, 0, false⟩⟩
instance : Inhabited Tl05Place := ⟨⟨0, 0, 0, false⟩⟩
def toSp (p : Tplace) : Tl05Place := ⟨p.instance_, p.pin, p.net, p.drives⟩
def plX (i : Nat) (x : ql) (j : Nat) : List Tplace := (List.range j).map fun (k : Nat) => ⟨(i : Int), (k : Int), at0 x.Nets k, decide (k + 1 = x.Nets.length)⟩
def plI (d : qg) (j : Nat) : List Tplace := (List.range j).flatMap fun (i : Nat) => plX i (gt d.Instances i) (gt d.Instances i).Nets.length
def plP (d : qg) (j : Nat) : List Tplace := (List.range j).map fun (i : Nat) => ⟨-1, (i : Int), (gt d.Ports i).Net, (gt d.Ports i).Dir == 1⟩
def places (d : qg) : List Tplace := plI d d.Instances.length ++ plP d d.Ports.length

theorem qnH {i : Nat} {x : ql} {j : Nat} : plX i x (j + 1) = plX i x j ++ [⟨(i : Int), (j : Int), at0 x.Nets j, decide (j + 1 = x.Nets.length)⟩] := by
  unfold plX; rw [List.range_succ, List.map_append]; rfl
theorem qiX {d : qg} {j : Nat} : plI d (j + 1) = plI d j ++ plX j (gt d.Instances j) (gt d.Instances j).Nets.length := by
  unfold plI; rw [List.range_succ, List.flatMap_append]; simp
theorem qnw {d : qg} {j : Nat} : plP d (j + 1) = plP d j ++ [⟨-1, (j : Int), (gt d.Ports j).Net, (gt d.Ports j).Dir == 1⟩] := by
  unfold plP; rw [List.range_succ, List.map_append]; rfl
theorem qlg {i : Nat} {x : ql} {j : Nat} : (plX i x j).length = j := by simp [plX]
theorem qlf {d : qg} {j : Nat} : (plP d j).length = j := by simp [plP]

/-- What a valid design says of its sizes. -/
structure smallD (d : qg) : Prop where
  ni : d.Instances.length ≤ 14
  nn : d.Nets.length ≤ 30
  np : d.Ports.length ≤ 8
  nx : ∀ i, i < d.Instances.length → 2 ≤ (gt d.Instances i).Nets.length ∧ (gt d.Instances i).Nets.length ≤ 5

theorem qba {l : qn} {d : qg} (h : designB l d = true) : smallD d := by
  unfold designB hasNamesB libB at h
  simp only [Bool.and_eq_true, decide_eq_true_eq] at h
  obtain ⟨⟨⟨hc, _⟩, ⟨h1, h2, h3⟩, _⟩, hI, _⟩ := h
  refine ⟨h1, h2, h3, fun i hi => ?_⟩
  rw [qhs, qa6] at hI hc
  have := hI i hi
  unfold instB at this
  simp only [Bool.and_eq_true, qcE, beq_iff_eq] at this
  have h5 := qhM (qlk (hc (gt d.Instances i).Cell.toNat (by omega)))
  omega
theorem qj1 {d : qg} (h : smallD d) {j : Nat} (hj : j ≤ d.Instances.length) : (plI d j).length ≤ 5 * j := by
  induction j with
  | zero => exact Nat.le_refl _
  | succ j ih =>
    rw [qiX, List.length_append, qlg]
    have := ih (by omega)
    have := h.nx j (by omega)
    omega
theorem qcw {d : qg} (h : smallD d) : (places d).length ≤ 78 := by
  unfold places
  rw [List.length_append, qlf]
  have := qj1 h (Nat.le_refl _)
  have := h.ni
  have := h.np
  omega

theorem qjo {d : qg} (h : smallD d) : Ev (fun n => qbH n d) (places d) := by
  have h1 := h.ni
  have h2 := h.np
  have hL2 : ∀ i, i < d.Instances.length → ∀ pre : List Tplace, pre.length ≤ 100 → Ev (fun n => qaT (i : Int) (gt d.Instances i) n pre 0) (pre ++ plX i (gt d.Instances i) (gt d.Instances i).Nets.length, ((gt d.Instances i).Nets.length : Int)) := by
    intro i hi pre hp
    have h5 := h.nx i hi
    have := loopF (Lf := qaT (i : Int) (gt d.Instances i)) (S := fun j => pre ++ plX i (gt d.Instances i) j) (len := (gt d.Instances i).Nets.length) (fin := (pre ++ plX i (gt d.Instances i) (gt d.Instances i).Nets.length, ((gt d.Instances i).Nets.length : Int))) (fun n => by
        simp only [qaT, qu (Nat.le_refl _), cond_false])
      (fun j hj X hX => by
        have hc : (pre ++ plX i (gt d.Instances i) j).length + [(⟨(i : Int), (j : Int), at0 (gt d.Instances i).Nets j, decide (j + 1 = (gt d.Instances i).Nets.length)⟩ : Tplace)].length ≤ 2147483648 := by
          rw [List.length_append, qlg]; simp; omega
        simp only [qaT, qr hj, cond_true, qdp hj, Option.bind_some, lastE hj (show (gt d.Instances i).Nets.length ≤ 1048576 by omega), qee hc, List.append_assoc, ← qnH, qp (show j < 9223372036854775807 by omega)]
        exact hX)
    simpa [plX] using this
  have hL1 : Ev (fun n => qaU d n ([] : List Tplace) 0) (plI d d.Instances.length, (d.Instances.length : Int)) := by
    refine loopF (Lf := qaU d) (S := fun j => plI d j) (len := d.Instances.length) (fun n => ?_) (fun j hj X hX => ?_)
    · simp only [qaU, qu (Nat.le_refl _), cond_false]
    · simp only [qaU, qr hj, cond_true, qam hj, Option.bind_some, qp (show j < 9223372036854775807 by omega)]
      refine Ev.bind (hL2 j hj _ (by have := qj1 h (Nat.le_of_lt hj); omega)) ?_
      rw [← qiX]
      exact hX
  have hL3 : Ev (fun n => qaV d n (plI d d.Instances.length) 0) (places d, (d.Ports.length : Int)) := by
    have := loopF (Lf := qaV d) (S := fun j => plI d d.Instances.length ++ plP d j) (len := d.Ports.length) (fin := (places d, (d.Ports.length : Int))) (fun n => by
        simp only [qaV, qu (Nat.le_refl _), cond_false]; rfl)
      (fun j hj X hX => by
        have hc : (plI d d.Instances.length ++ plP d j).length + [(⟨-1, (j : Int), (gt d.Ports j).Net, (gt d.Ports j).Dir == 1⟩ : Tplace)].length ≤ 2147483648 := by
          rw [List.length_append, qlf]; have := qj1 h (Nat.le_refl _); simp; omega
        simp only [qaV, qr hj, cond_true, qam hj, Option.bind_some, qee hc, List.append_assoc, ← qnw, qp (show j < 9223372036854775807 by omega)]
        exact hX)
    simpa [plP] using this
  unfold qbH
  exact Ev.bind hL1 (Ev.bind hL3 .done)

theorem qhL {d : qg} (h : smallD d) : Ev (fun n => qcx n d) ((places d).map toSp) := by
  have h1 := h.ni
  have h2 := h.np
  have hL2 : ∀ i, i < d.Instances.length → ∀ pre : List Tplace, pre.length ≤ 100 → Ev (fun n => qby (i : Int) (gt d.Instances i) n (pre.map toSp) 0) ((pre ++ plX i (gt d.Instances i) (gt d.Instances i).Nets.length).map toSp, ((gt d.Instances i).Nets.length : Int)) := by
    intro i hi pre hp
    have h5 := h.nx i hi
    have := loopF (Lf := qby (i : Int) (gt d.Instances i)) (S := fun j => (pre ++ plX i (gt d.Instances i) j).map toSp) (len := (gt d.Instances i).Nets.length) (fin := ((pre ++ plX i (gt d.Instances i) (gt d.Instances i).Nets.length).map toSp, ((gt d.Instances i).Nets.length : Int))) (fun n => by
        simp only [qby, qu (Nat.le_refl _), cond_false])
      (fun j hj X hX => by
        have hc : ((pre ++ plX i (gt d.Instances i) j).map toSp).length + [(⟨(i : Int), (j : Int), at0 (gt d.Instances i).Nets j, decide (j + 1 = (gt d.Instances i).Nets.length)⟩ : Tl05Place)].length ≤ 2147483648 := by
          rw [List.length_map, List.length_append, qlg]; simp; omega
        simp only [qby, qr hj, cond_true, qdp hj, Option.bind_some, lastE hj (show (gt d.Instances i).Nets.length ≤ 1048576 by omega), qee hc, qp (show j < 9223372036854775807 by omega)]
        rw [qnH, ← List.append_assoc, List.map_append] at hX
        exact hX)
    simpa [plX] using this
  have hL1 : Ev (fun n => qbC d n ([] : List Tl05Place) 0) ((plI d d.Instances.length).map toSp, (d.Instances.length : Int)) := by
    refine loopF (Lf := qbC d) (S := fun j => (plI d j).map toSp) (len := d.Instances.length) (fun n => ?_) (fun j hj X hX => ?_)
    · simp only [qbC, qu (Nat.le_refl _), cond_false]
    · simp only [qbC, qr hj, cond_true, qam hj, Option.bind_some, qp (show j < 9223372036854775807 by omega)]
      refine Ev.bind (hL2 j hj _ (by have := qj1 h (Nat.le_of_lt hj); omega)) ?_
      rw [← qiX]
      exact hX
  have hL3 : Ev (fun n => qbD d n ((plI d d.Instances.length).map toSp) 0) ((places d).map toSp, (d.Ports.length : Int)) := by
    have := loopF (Lf := qbD d) (S := fun j => (plI d d.Instances.length ++ plP d j).map toSp) (len := d.Ports.length) (fin := ((places d).map toSp, (d.Ports.length : Int))) (fun n => by
        simp only [qbD, qu (Nat.le_refl _), cond_false]; rfl)
      (fun j hj X hX => by
        have hc : ((plI d d.Instances.length ++ plP d j).map toSp).length + [(⟨-1, (j : Int), (gt d.Ports j).Net, (gt d.Ports j).Dir == 1⟩ : Tl05Place)].length ≤ 2147483648 := by
          rw [List.length_map, List.length_append, qlf]; have := qj1 h (Nat.le_refl _); simp; omega
        simp only [qbD, qr hj, cond_true, qam hj, Option.bind_some, qee hc, qp (show j < 9223372036854775807 by omega)]
        rw [qnw, ← List.append_assoc, List.map_append] at hX
        exact hX)
    simpa [plP] using this
  unfold qcx
  exact Ev.bind hL1 (Ev.bind hL3 .done)

def snkQ (d : qg) (k : Int) (i : Nat) : Bool := ((gt (places d) i).net == k) && !(gt (places d) i).drives
def sinksL (d : qg) (k : Int) (j : Nat) : List Int := ((List.range j).filter (snkQ d k)).map fun (i : Nat) => (i : Int)
def snkN (d : qg) (k : Int) : Nat := cntP (snkQ d k) (places d).length
theorem qh7 {d : qg} {k : Int} {j : Nat} : sinksL d k (j + 1) = sinksL d k j ++ (bif snkQ d k j then [(j : Int)] else []) := by
  unfold sinksL
  rw [List.range_succ, List.filter_append, List.map_append]
  congr 1
  cases h : snkQ d k j <;> simp [h]
theorem qeO {d : qg} {k : Int} {j : Nat} : (sinksL d k j).length = cntP (snkQ d k) j := by
  induction j with
  | zero => rfl
  | succ j ih =>
    rw [qh7, List.length_append, ih]
    show _ = cntP (snkQ d k) j + _
    congr 1
    cases snkQ d k j <;> rfl
theorem qkr {α β : Type} [Inhabited α] [Inhabited β] {xs : List α} {g : α → β} {j : Nat} (h : j < xs.length) : gt (xs.map g) j = g (gt xs j) := by
  rw [qiu (by simpa using h), qiu h]; simp

theorem qkK {d : qg} {k : Int} (h : smallD d) : Ev (fun n => qe6 n d k) (sinksL d k (places d).length) := by
  have hl := qcw h
  have hL : Ev (fun n => qbo k ((places d).map toSp) n ([] : List Int) 0) (sinksL d k (places d).length, ((places d).length : Int)) := by
    refine loopF (Lf := qbo k ((places d).map toSp)) (S := fun j => sinksL d k j) (len := (places d).length) (fun n => ?_) (fun j hj X hX => ?_)
    · simp only [qbo, List.length_map, qu (Nat.le_refl _), cond_false]
    · have hj' : j < ((places d).map toSp).length := by simpa using hj
      have hc : (sinksL d k j).length + [(j : Int)].length ≤ 2147483648 := by
        rw [qeO]
        have : cntP (snkQ d k) j ≤ j := qd4
        simp; omega
      simp only [qbo, qr hj', cond_true, qam hj', qkr hj, Option.bind_some, qp (show j < 9223372036854775807 by omega)]
      rw [show ∀ p : Tplace, (toSp p).net = p.net from fun _ => rfl, show ∀ p : Tplace, (toSp p).drives = p.drives from fun _ => rfl]
      refine Ev.bind (b := snkQ d k j) (Ev.andP fun _ => .done) ?_
      rw [qh7] at hX
      cases hq : snkQ d k j
      · rw [hq] at hX
        simp only [cond_false, List.append_nil] at hX ⊢
        exact hX
      · rw [hq] at hX
        simp only [cond_true, qee hc, Option.bind_some] at hX ⊢
        exact hX
  unfold qe6
  exact Ev.bind (qhL h) (Ev.bind hL .done)

theorem qiF {l : qn} {d : qg} (h : designB l d = true) {i : Nat} (hi : i < (places d).length) : 0 ≤ (gt (places d) i).net ∧ (gt (places d) i).net < d.Nets.length := by
  unfold designB at h
  simp only [Bool.and_eq_true] at h
  obtain ⟨_, hI, hP, _⟩ := h
  rw [qhs, qa6] at hI hP
  have hm : gt (places d) i ∈ places d := by rw [qiu hi]; exact List.getElem_mem hi
  generalize gt (places d) i = p at hm
  unfold places at hm
  rcases List.mem_append.1 hm with hm | hm
  · unfold plI at hm
    obtain ⟨i, hi, hm⟩ := List.mem_flatMap.1 hm
    unfold plX at hm
    obtain ⟨k, hk, rfl⟩ := List.mem_map.1 hm
    have := hI i (List.mem_range.1 hi)
    unfold instB at this
    simp only [Bool.and_eq_true] at this
    have h3 := this.2.2
    rw [qhp (d := 0), qa6] at h3
    have h4 := h3 k (List.mem_range.1 hk)
    unfold netB at h4
    rw [qcE] at h4
    show 0 ≤ at0 _ _ ∧ at0 _ _ < _
    unfold at0
    omega
  · unfold plP at hm
    obtain ⟨i, hi, rfl⟩ := List.mem_map.1 hm
    have := hP i (List.mem_range.1 hi)
    unfold portB netB at this
    simp only [Bool.and_eq_true, qcE] at this
    show 0 ≤ (gt d.Ports i).Net ∧ (gt d.Ports i).Net < _
    omega

/-! ### Blocks -/

def blockB (b : qC) : Bool := (designB b.Library b.Design && ((b.Wires.length : Int) == (b.Design.Nets.length : Int))) && allN (fun j => wireB (gt b.Wires j) (snkN b.Design (j : Int))) b.Wires.length

theorem qop {b : qC} (h : qgU b) : Ev (fun n => qgw n b) (blockB b) := by
  have hwl := h.Wires.len
  unfold qgw blockB
  refine Ev.guardB (Ev.or (qnG h.Library h.Design) fun _ => .done) fun hb => ?_
  rw [Bool.and_eq_true, beq_iff_eq] at hb
  obtain ⟨hd, hw⟩ := hb
  have hs := qba hd
  have hl := qcw hs
  have hn := hs.nn
  rw [qjj (m := b.Wires.length) (by omega)]
  simp only [Option.bind_some]
  have hL1 : Ev (fun n => qbK (places b.Design) n (vecC (fun _ => 0) b.Wires.length) 0) (vecC (fun k => snkN b.Design (k : Int)) b.Wires.length, ((places b.Design).length : Int)) := by
    refine loopF (Lf := qbK (places b.Design)) (S := fun j => vecC (fun k => cntP (snkQ b.Design (k : Int)) j) b.Wires.length) (len := (places b.Design).length) (fun n => ?_) (fun j hj X hX => ?_)
    · simp only [qbK, qu (Nat.le_refl _), cond_false]; rfl
    · simp only [qbK, qr hj, cond_true, qam hj, Option.bind_some, qp (show j < 9223372036854775807 by omega)]
      obtain ⟨n0, n1⟩ := qiF hd hj
      cases h1 : (gt (places b.Design) j).drives
      · have hc : cntP (snkQ b.Design (((gt (places b.Design) j).net.toNat : Nat) : Int)) j ≤ j := qd4
        obtain ⟨e1, e2⟩ := qig (c := fun k => cntP (snkQ b.Design (k : Int)) j) (c' := fun k => cntP (snkQ b.Design (k : Int)) (j + 1)) (x := (gt (places b.Design) j).net) (m := b.Wires.length) n0 (by omega) (by show cntP _ _ < _; omega) (fun k _ => by
          show cntP _ j + (bif snkQ b.Design (k : Int) j then 1 else 0) = _
          unfold snkQ
          rw [h1, Bool.not_false, Bool.and_true])
        simp only [Bool.not_false, cond_true, Option.bind_some, e1, e2]
        exact hX
      · have : vecC (fun k => cntP (snkQ b.Design (k : Int)) (j + 1)) b.Wires.length = vecC (fun k => cntP (snkQ b.Design (k : Int)) j) b.Wires.length := by
          refine qhU (fun k _ => ?_)
          show cntP _ j + (bif snkQ b.Design (k : Int) j then 1 else 0) = _
          unfold snkQ
          rw [h1, Bool.not_true, Bool.and_false]; rfl
        rw [this] at hX
        exact hX
  have hL2 : Ev (fun n => qcL b (vecC (fun k => snkN b.Design (k : Int)) b.Wires.length) n 0) (bif allN (fun j => wireB (gt b.Wires j) (snkN b.Design (j : Int))) b.Wires.length then .nxt (b.Wires.length : Int) else .ret false) := by
    refine qeT ?_ (fun j hj X hX => Ev.succ ?_)
    · exact Ev.succ (by simp only [qcL, qu (Nat.le_refl _), cond_false]; exact .done)
    · simp only [qcL, qr hj, cond_true, qam hj, qhV hj, Option.bind_some, qp (show j < 9223372036854775807 by omega)]
      exact Ev.chk1 (qoO (qi3 h.Wires hj)) fun _ => hX
  refine Ev.bind (qjo hs) (Ev.bind hL1 (Ev.bind hL2 ?_))
  cases allN (fun j => wireB (gt b.Wires j) (snkN b.Design (j : Int))) b.Wires.length <;> exact .done

theorem qni {b : qC} (h : qgU b) : Ev (fun n => qgJ n b) (blockB b) := by
  have hwl := h.Wires.len
  unfold qgJ blockB
  refine Ev.guardB (Ev.or (qj4 h.Library h.Design) fun _ => .done) fun hb => ?_
  rw [Bool.and_eq_true] at hb
  have hs := qba hb.1
  have hL : Ev (fun n => qcK b n 0) (bif allN (fun j => wireB (gt b.Wires j) (snkN b.Design (j : Int))) b.Wires.length then .nxt (b.Wires.length : Int) else .ret false) := by
    refine qeT ?_ (fun j hj X hX => Ev.succ ?_)
    · exact Ev.succ (by simp only [qcK, qu (Nat.le_refl _), cond_false]; exact .done)
    · simp only [qcK, qr hj, cond_true, qam hj, Option.bind_some, qp (show j < 9223372036854775807 by omega)]
      refine Ev.bind (qkK hs) ?_
      rw [qeO]
      exact Ev.chk1 (qnQ (qi3 h.Wires hj)) fun _ => hX
  refine Ev.bind hL ?_
  cases allN (fun j => wireB (gt b.Wires j) (snkN b.Design (j : Int))) b.Wires.length <;> exact .done
end Go.Fw
