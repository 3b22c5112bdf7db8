/- By a program of mine (gen.py): for each function a plain function and the proof that the code computes it. -/
import Derived.Test.YtihkipojhdehnaaGreatDoorA3
import Derived.Test.YtihkipojhdehnaaGreatDoorFw34

namespace Go.Fw
open Go Go.Proofs
open Go.RowKit (Below)
set_option maxRecDepth 100000
set_option maxHeartbeats 1600000
def qg8 (n : Nat) (t : qC) : Option Bool :=
 (qgC n t.Slews).bind fun r1 =>
 bif r1 then
  (qgC n t.Loads).bind fun r2 =>
  bif r2 then
   bif ((t.Values.length : Int) == (W64 ((t.Slews.length : Int) * (t.Loads.length : Int)))) then
    (qbx n t.Values (-1000000) 1000000).bind fun r3 =>
    some r3
   else
    some false
  else
   some false
 else
  some false

theorem qlb {n : Nat} {w : World} {t : qC} {cs1 : List Value} (ha1 : GoT.R w (old w) t cs1) {r : Bool} (hF : qg8 n t = some r) : RetV Tryz.prog 256 [GoT.v qC cs1] w r := by
 obtain ⟨p1, k1, p2, k2, p3, k3, rfl, s1, s2, s3⟩ := qbs ha1
 refine qe Tryz.func256 rfl (m := 29) rfl rfl (fun h => ?_)
 rw [qg8] at hF
 refine zSR (qO h rfl rfl ?_)
 intro w1 bb1 h
 refine zp1 rfl (zNSR (zp1 rfl (zl 0 0 h rfl ?_)))
 obtain ⟨r1, hr1, hF⟩ := qd hF
 refine qn r1 h call265 (qjF ⟨_, _, rfl, (h.oldS s1)⟩ hr1) rfl rfl rfl rfl ?_
 intro w2 h
 refine zp1 rfl ?_
 by_cases hc1 : r1 = true
 ·replace hF := bifT hc1 hF
  refine qD hc1 (t := 6) rfl (qa rfl (zp1 rfl (qa rfl (zl 0 1 h rfl (qa rfl ?_)))))
  obtain ⟨r2, hr2, hF⟩ := qd hF
  refine qn r2 h call265 (qjF ⟨_, _, rfl, (h.oldS s2)⟩ hr2) rfl rfl rfl rfl ?_
  intro w3 h
  refine zp2 rfl ?_
  by_cases hc2 : r2 = true
  ·replace hF := bifT hc2 hF
   refine qD hc2 (t := 11) rfl (qa rfl (zp1 rfl (qa rfl (zl 0 2 h rfl (qa rfl (zp1 rfl (qa rfl (zp1 rfl (qa rfl (zl 0 0 h rfl (qa rfl ?_)))))))))))
   refine zp1 rfl (qa rfl (zp1 rfl (qa rfl (zl 0 1 h rfl (qa rfl (zp1 rfl (qa rfl (zp1 rfl (qa rfl (zp2 rfl ?_))))))))))
   refine zp1 rfl ?_
   by_cases hc3 : ((t.Values.length : Int) == (W64 ((t.Slews.length : Int) * (t.Loads.length : Int)))) = true
   ·replace hF := bifT hc3 hF
    refine qD hc3 (t := 24) rfl (qa rfl (zp1 rfl (qa rfl (zl 0 2 h rfl (qa rfl ?_)))))
    obtain ⟨r3, hr3, hF⟩ := qd hF
    refine qn r3 h call112 (qcQ ⟨_, _, rfl, (h.oldS s3)⟩ hr3) rfl rfl rfl rfl ?_
    intro w4 h
    exact zp2 rfl (qb (qw qc h hF ⟨rfl, trivial⟩))
   replace hc3 := zb hc3
   replace hF := bifF hc3 hF
   exact qE hc3 (t := 24) rfl (zn3 rfl (zp2 rfl (qb (qw qc h hF ⟨rfl, trivial⟩))))
  replace hc2 := zb hc2
  replace hF := bifF hc2 hF
  refine qE hc2 (t := 11) rfl (zn5 rfl (zn5 rfl (zn1 rfl ?_)))
  exact zp2 rfl (zn3 rfl (zp2 rfl (qb (qw qc h hF ⟨rfl, trivial⟩))))
 replace hc1 := zb hc1
 replace hF := bifF hc1 hF
 refine qE hc1 (t := 6) rfl (zn3 rfl (zp2 rfl (zn5 rfl (zn1 rfl ?_))))
 refine zn5 rfl (zp2 rfl (zn3 rfl (zp2 rfl ?_)))
 exact qb (qw qc h hF ⟨rfl, trivial⟩)

def qbC (x : (List Int)) : Nat → Int → Int → Option (Int × Int)
 | 0, _, _ => none
 | n + 1, i1, i2 =>
  bif decide (i2 < (x.length : Int)) then
   (idx x i2).bind fun y2 =>
   qbC x n (if y2 < i1 then y2 else i1) (W64 (i2 + 1))
  else
   some (i1, i2)

def qe1 (n : Nat) (x : (List Int)) : Option Int :=
 (
  bif decide ((x.length : Int) < 1) then
   none
  else
   some ()).bind fun _ =>
 (idx x 0).bind fun y1 =>
 (qbC x n y1 1).bind fun o => match o with
 | (i1, _) =>
  some i1

theorem qjZ {n : Nat} {w : World} {x : (List Int)} {cs1 : List Value} (ha1 : GoT.R w (old w) x cs1) {r : Int} (hF : qe1 n x = some r) : RetV Tryz.prog 257 [GoT.v (List Int) cs1] w r := by
 obtain ⟨p1, k1, rfl, s1⟩ := ha1
 refine qe Tryz.func257 rfl (m := 25) rfl rfl (fun h => ?_)
 rw [qe1] at hF
 refine zSR (zp1 rfl (zNSSR (zp3 rfl (qb ?_))))
 obtain ⟨KF1, hKF1, o2, hF, hK2⟩ := bindE hF
 refine qen (fun e w' => KF1 () = some r ∧ e = [(0, .slice p1 x.length k1)] ∧ SH w w' []) ?_ ?_
 ·refine qr rfl hF ?_ ?_ <;> intro hF
  ·refine qy ?_
   cases hF
  refine qdH ?_
  obtain rfl := qh hF
  exact qx [(0, _)] ⟨rfl, trivial⟩ ⟨hK2, rfl, h⟩
 rintro e2 w2 ⟨hF, rfl, h⟩
 subst hKF1
 refine zSR (zp1 rfl ?_)
 obtain ⟨y1, hy1, hF⟩ := qd hF
 have he1 := qg hy1
 obtain ⟨b1, o_1, q1, cs2, hp1, hq1, -, hr1, hc1⟩ := s1.at hy1
 obtain rfl := hr1
 refine zxe hp1 hq1 he1 rfl (zc 0 (hc1.below h.below) rfl (zp1 rfl (zNSSR (zp1 rfl (qb ?_)))))
 obtain ⟨o1, hF, hK1⟩ := qd hF
 refine qv (qR [(0, _), (3, _), (4, _)] ⟨rfl, rfl, rfl, trivial⟩ ?_)
 refine qI (fun m e w' => ∃ (i1 : Int) (i2 : Int), qbC x m i1 i2 = some o1 ∧ e = [(0, .slice p1 x.length k1), (3, .int .i64 i1), (4, .int .i64 i2)] ∧ SH w w' []) n ⟨_, _, hF, rfl, h⟩ ?_
 rintro m1 e1 w1 ⟨i1, i2, hF, rfl, h⟩
 rcases m1 with _ | m1
 ·rw [qbC] at hF
  cases hF
 rw [qbC] at hF
 refine zSSR (zp4 rfl (qb ?_))
 refine qr rfl hF ?_ ?_ <;> intro hF
 ·refine zKSBR (zp3 rfl ?_)
  obtain ⟨y2, hy2, hF⟩ := qd hF
  have he2 := qg hy2
  obtain ⟨b2, o_2, q2, cs3, hp2, hq2, -, hr2, hc3⟩ := s1.at hy2
  obtain rfl := hr2
  exact zxe hp2 hq2 he2 rfl (zc 0 (hc3.below h.below) rfl (zp2 rfl (zNER (zp3 rfl (qb (qA m1 [(0, _), (3, _), (4, _)] (Nat.lt_succ_self m1) ⟨rfl, rfl, rfl, trivial⟩ ⟨_, _, hF, rfl, h⟩))))))
 refine qH rfl ?_
 obtain rfl := qh hF; replace hF := hK1
 exact zSR (zp2 rfl (qb (qap qc h hF ⟨rfl, trivial⟩)))

def qe8 (n : Nat) (t : qC) (v0 : Bool) : Option Bool :=
 (qg8 n t).bind fun r1 =>
 bif (!r1) then
  some true
 else
  bif v0 then
   (qe1 n t.Values).bind fun r2 =>
   some (decide (r2 < 0))
  else
   some false

theorem qj1 {n : Nat} {w : World} {t : qC} {v0 : Bool} {cs1 : List Value} (ha1 : GoT.R w (old w) t cs1) {p4 : Option Addr} (ha2 : GoT.R w (old w) (some v0) [.pointer p4]) {r : Bool} (hF : qe8 n t v0 = some r) : RetV Tryz.prog 255 [GoT.v qC cs1, .pointer p4] w r := by
 obtain ⟨p1, k1, p2, k2, p3, k3, rfl, s1, s2, s3⟩ := qbs ha1
 obtain ⟨b1, o_1, cs2, rfl, -, hr1, hc1⟩ := PtR.get ha2 rfl
 obtain rfl := hr1
 refine qe Tryz.func255 rfl (m := 16) rfl rfl (fun h => ?_)
 rw [qe8] at hF
 refine zSR (qO h rfl rfl ?_)
 intro w1 bb1 h
 refine zp1 rfl (zNSR (zl 0 0 h rfl ?_))
 obtain ⟨r1, hr2, hF⟩ := qd hF
 refine qn r1 h call256 (qlb (h.old ha1) hr2) rfl rfl rfl rfl ?_
 intro w2 h
 refine zp2 rfl ?_
 by_cases hc2 : (!r1) = true
 ·replace hF := bifT hc2 hF
  exact qD hc2 (t := 7) rfl (zn5 rfl (zn2 rfl (zp2 rfl (qb (qw qc h hF ⟨rfl, trivial⟩)))))
 replace hc2 := zb hc2
 replace hF := bifF hc2 hF
 refine qE hc2 (t := 7) rfl (qa rfl (zc 0 (hc1.below h.below) rfl (qa rfl (zp1 rfl ?_))))
 by_cases hc3 : v0 = true
 ·replace hF := bifT hc3 hF
  refine qD hc3 (t := 9) rfl (qa rfl (zp1 rfl (qa rfl (zl 0 2 h rfl (qa rfl ?_)))))
  obtain ⟨r2, hr3, hF⟩ := qd hF
  refine qT r2 h call257 (qjZ ⟨_, _, rfl, (h.oldS s3)⟩ hr3) rfl rfl rfl rfl ?_
  intro w3 h
  exact qa rfl (zp1 rfl (qa rfl (zp3 rfl (qb (qw qc h hF ⟨rfl, trivial⟩)))))
 replace hc3 := zb hc3
 replace hF := bifF hc3 hF
 exact qE hc3 (t := 9) rfl (zn4 rfl (qa rfl (zp3 rfl (qb (qw qc h hF ⟨rfl, trivial⟩)))))

def qL (s : (List qC)) (f_0 : Bool) : Nat → Int → Option (Flow Int Int)
 | 0, _ => none
 | n + 1, i1 =>
  bif decide (i1 < (s.length : Int)) then
   (idx s i1).bind fun y1 =>
   (qe8 n y1 f_0).bind fun r1 =>
   bif r1 then
    some (.ret i1)
   else
    qL s f_0 n (W64 (i1 + 1))
  else
   some (.nxt i1)

def qaj (n : Nat) (s : (List qC)) (f_0 : Bool) : Option Int :=
 (qL s f_0 n 0).bind fun o => match o with
 | .ret r => some r
 | .nxt _ =>
  some (-1)

theorem qew {n : Nat} {w : World} {s : (List qC)} {f_0 : Bool} {cs1 : List Value} (ha1 : GoT.R w (old w) s cs1) {p2 : Option Addr} (ha2 : GoT.R w (old w) (some f_0) [.pointer p2]) {r : Int} (hF : qaj n s f_0 = some r) : RetV Tryz.prog 264 [GoT.v (List qC) cs1, .func (.func 255) #[] #[.pointer p2]] w r := by
 obtain ⟨p1, k1, rfl, s1⟩ := ha1
 obtain ⟨b1, o_1, cs2, rfl, -, hr1, hc1⟩ := PtR.get ha2 rfl
 obtain rfl := hr1
 refine qe Tryz.func264 rfl (m := 19) rfl rfl (fun h => ?_)
 rw [qaj] at hF
 refine zSR (zp1 rfl (zNSSR (zp3 rfl (qb ?_))))
 obtain ⟨o1, hF, hK1⟩ := qd hF
 refine qv (qR [(0, _), (1, _), (7, _), (8, _)] ⟨rfl, rfl, rfl, rfl, trivial⟩ ?_)
 refine qI (fun m e w' => ∃ (i1 : Int), qL s f_0 m i1 = some o1 ∧ e = [(0, .slice p1 s.length k1), (1, .func (.func 255) #[] #[.pointer (some ⟨b1, o_1, none⟩)]), (7, .int .i64 (s.length : Int)), (8, .int .i64 i1)] ∧ SH w w' []) n ⟨_, hF, rfl, h⟩ ?_
 rintro m1 e1 w1 ⟨i1, hF, rfl, h⟩
 rcases m1 with _ | m1
 ·rw [qL] at hF
  cases hF
 rw [qL] at hF
 refine zSR (zp1 rfl (zNS ?_))
 refine qr rfl hF ?_ ?_ <;> intro hF
 ·refine zKSBSR (zp2 rfl (zNSR (zp2 rfl ?_)))
  refine zp1 rfl ?_
  obtain ⟨y1, hy1, hF⟩ := qd hF
  have he1 := qg hy1
  obtain ⟨b2, o_2, q1, cs3, hp1, hq1, -, hr2, hc3⟩ := s1.at hy1
  obtain ⟨p3, k2, p4, k3, p5, k4, rfl, s2, s3, s4⟩ := qbs hr2
  refine zxe hp1 hq1 he1 rfl (zc 0 (hc3.below h.below) rfl ?_)
  obtain ⟨r1, hr3, hF⟩ := qd hF
  refine qn r1 h call255 (qj1 (qht y1 (h.oldS s2) (h.oldS s3) (h.oldS s4)) (h.old ha2) hr3) rfl rfl rfl rfl ?_
  intro w2 h
  refine qb ?_
  refine qr rfl hF ?_ ?_ <;> intro hF
  ·refine zSR (zp2 rfl (qb ?_))
   obtain rfl := qh hF; replace hF := hK1
   exact qap qc h hF ⟨rfl, trivial⟩
  exact zKER (zp2 rfl (qb (qA m1 [(0, _), (1, _), (7, _), (8, _)] (Nat.lt_succ_self m1) ⟨rfl, rfl, rfl, rfl, trivial⟩ ⟨_, hF, rfl, h⟩)))
 refine qH rfl ?_
 obtain rfl := qh hF; replace hF := hK1
 exact zSR (zp1 rfl (qb (qap qc h hF ⟨rfl, trivial⟩)))

def qaw (n : Nat) (s : (List qC)) (f_0 : Bool) : Option Bool :=
 (qaj n s f_0).bind fun r1 =>
 some (decide (r1 ≥ 0))

theorem qd8 {n : Nat} {w : World} {s : (List qC)} {f_0 : Bool} {cs1 : List Value} (ha1 : GoT.R w (old w) s cs1) {p2 : Option Addr} (ha2 : GoT.R w (old w) (some f_0) [.pointer p2]) {r : Bool} (hF : qaw n s f_0 = some r) : RetV Tryz.prog 254 [GoT.v (List qC) cs1, .func (.func 255) #[] #[.pointer p2]] w r := by
 obtain ⟨p1, k1, rfl, s1⟩ := ha1
 obtain ⟨b1, o_1, cs2, rfl, -, hr1, hc1⟩ := PtR.get ha2 rfl
 obtain rfl := hr1
 refine qe Tryz.func254 rfl (m := 9) rfl rfl (fun h => ?_)
 rw [qaw] at hF
 refine zSR (zp1 rfl (zNSR (zp2 rfl ?_)))
 obtain ⟨r1, hr2, hF⟩ := qd hF
 refine qT r1 h call264 (qew ⟨_, _, rfl, (h.oldS s1)⟩ (h.old ha2) hr2) rfl rfl rfl rfl ?_
 intro w1 h
 exact zp2 rfl (qb (qw qc h hF ⟨rfl, trivial⟩))

def qd7 (n : Nat) (list : (List qC)) (positive : Bool) : Option Bool :=
 bif ((list.length : Int) == 2) then
  (qaw n list positive).bind fun r1 =>
  some (!r1)
 else
  some false

theorem qgS {n : Nat} {w : World} {list : (List qC)} {positive : Bool} {cs1 : List Value} (ha1 : GoT.R w (old w) list cs1) {r : Bool} (hF : qd7 n list positive = some r) : RetV Tryz.prog 244 [GoT.v (List qC) cs1, .bool positive] w r := by
 obtain ⟨p1, k1, rfl, s1⟩ := ha1
 refine qe Tryz.func244 rfl (m := 14) rfl rfl (fun h => ?_)
 rw [qd7] at hF
 refine zSR (qO h rfl rfl ?_)
 intro w1 bb1 h
 refine zp1 rfl (zNSR (zp4 rfl ?_))
 by_cases hc1 : ((list.length : Int) == 2) = true
 ·replace hF := bifT hc1 hF
  refine qD hc1 (t := 8) rfl (qa rfl (zp1 rfl (qa rfl (zp1 rfl (qa rfl ?_)))))
  obtain ⟨r1, hr1, hF⟩ := qd hF
  refine qn r1 h call254 (qd8 ⟨_, _, rfl, (h.oldS s1)⟩ (qie (x := positive) 0 h rfl rfl) hr1) rfl rfl rfl rfl ?_
  intro w2 h
  exact qa rfl (zp3 rfl (qb (qw qc h hF ⟨rfl, trivial⟩)))
 replace hc1 := zb hc1
 replace hF := bifF hc1 hF
 exact qE hc1 (t := 8) rfl (zn4 rfl (zp2 rfl (qb (qw qc h hF ⟨rfl, trivial⟩))))

def qfz (_ : Nat) (p : qaf) : Option Bool :=
 some p.Clock

theorem qjv {n : Nat} {w : World} {p : qaf} {cs1 : List Value} (ha1 : GoT.R w (old w) p cs1) {r : Bool} (hF : qfz n p = some r) : RetV Tryz.prog 259 [GoT.v qaf cs1] w r := by
 obtain rfl := qa7 ha1
 refine qe Tryz.func259 rfl (m := 5) rfl rfl (fun h => ?_)
 rw [qfz] at hF
 refine zSR (qO h rfl rfl ?_)
 intro w1 bb1 h
 exact zp1 rfl (zNSR (zp1 rfl (zl 0 3 h rfl (zp1 rfl (qb (qw qc h hF ⟨rfl, trivial⟩))))))

def qM (s : (List qaf)) : Nat → Int → Option (Flow Int Int)
 | 0, _ => none
 | n + 1, i1 =>
  bif decide (i1 < (s.length : Int)) then
   (idx s i1).bind fun y1 =>
   (qfz n y1).bind fun r1 =>
   bif r1 then
    some (.ret i1)
   else
    qM s n (W64 (i1 + 1))
  else
   some (.nxt i1)

def qaO (n : Nat) (s : (List qaf)) : Option Int :=
 (qM s n 0).bind fun o => match o with
 | .ret r => some r
 | .nxt _ =>
  some (-1)

theorem qeL {n : Nat} {w : World} {s : (List qaf)} {cs1 : List Value} (ha1 : GoT.R w (old w) s cs1) {r : Int} (hF : qaO n s = some r) : RetV Tryz.prog 258 [GoT.v (List qaf) cs1, .func (.func 259) #[] #[]] w r := by
 obtain ⟨p1, k1, rfl, s1⟩ := ha1
 refine qe Tryz.func258 rfl (m := 19) rfl rfl (fun h => ?_)
 rw [qaO] at hF
 refine zSR (zp1 rfl (zNSSR (zp3 rfl (qb ?_))))
 obtain ⟨o1, hF, hK1⟩ := qd hF
 refine qv (qR [(0, _), (1, _), (7, _), (8, _)] ⟨rfl, rfl, rfl, rfl, trivial⟩ ?_)
 refine qI (fun m e w' => ∃ (i1 : Int), qM s m i1 = some o1 ∧ e = [(0, .slice p1 s.length k1), (1, .func (.func 259) #[] #[]), (7, .int .i64 (s.length : Int)), (8, .int .i64 i1)] ∧ SH w w' []) n ⟨_, hF, rfl, h⟩ ?_
 rintro m1 e1 w1 ⟨i1, hF, rfl, h⟩
 rcases m1 with _ | m1
 ·rw [qM] at hF
  cases hF
 rw [qM] at hF
 refine zSR (zp1 rfl (zNS ?_))
 refine qr rfl hF ?_ ?_ <;> intro hF
 ·refine zKSBSR (zp2 rfl (zNSR (zp2 rfl ?_)))
  refine zp1 rfl ?_
  obtain ⟨y1, hy1, hF⟩ := qd hF
  have he1 := qg hy1
  obtain ⟨b1, o_1, q1, cs2, hp1, hq1, -, hr1, hc2⟩ := s1.at hy1
  obtain rfl := qa7 hr1
  refine zxe hp1 hq1 he1 rfl (zc 0 (hc2.below h.below) rfl ?_)
  obtain ⟨r1, hr2, hF⟩ := qd hF
  refine qn r1 h call259 (qjv (qdQ y1) hr2) rfl rfl rfl rfl ?_
  intro w2 h
  refine qb ?_
  refine qr rfl hF ?_ ?_ <;> intro hF
  ·refine zSR (zp2 rfl (qb ?_))
   obtain rfl := qh hF; replace hF := hK1
   exact qap qc h hF ⟨rfl, trivial⟩
  exact zKER (zp2 rfl (qb (qA m1 [(0, _), (1, _), (7, _), (8, _)] (Nat.lt_succ_self m1) ⟨rfl, rfl, rfl, rfl, trivial⟩ ⟨_, hF, rfl, h⟩)))
 refine qH rfl ?_
 obtain rfl := qh hF; replace hF := hK1
 exact zSR (zp1 rfl (qb (qap qc h hF ⟨rfl, trivial⟩)))

def qfs (n : Nat) (c : qB) : Option Int :=
 (qaO n c.Pins).bind fun r1 =>
 some r1

theorem qke {n : Nat} {w : World} {c : qB} {cs1 : List Value} (ha1 : GoT.R w (old w) c cs1) {r : Int} (hF : qfs n c = some r) : RetV Tryz.prog 245 [GoT.v qB cs1] w r := by
 obtain ⟨p1, k1, p2, k2, p3, k3, rfl, s1, s2, s3⟩ := qai ha1
 refine qe Tryz.func245 rfl (m := 6) rfl rfl (fun h => ?_)
 rw [qfs] at hF
 refine zSR (qO h rfl rfl ?_)
 intro w1 bb1 h
 refine zp1 rfl (zNSR (zp1 rfl (zl 0 2 h rfl ?_)))
 obtain ⟨r1, hr1, hF⟩ := qd hF
 refine qT r1 h call258 (qeL ⟨_, _, rfl, (h.oldS s1)⟩ hr1) rfl rfl rfl rfl ?_
 intro w2 h
 exact zp1 rfl (qb (qap qc h hF ⟨rfl, trivial⟩))

def qeG (n : Nat) (c : qB) (pin : Int) : Option Bool :=
 (qdj n c).bind fun r1 =>
 (qaN n pin 0 (W64 (r1 - 1))).bind fun r2 =>
 some r2

theorem qhP {n : Nat} {w : World} {c : qB} {pin : Int} {cs1 : List Value} (ha1 : GoT.R w (old w) c cs1) {r : Bool} (hF : qeG n c pin = some r) : RetV Tryz.prog 246 [GoT.v qB cs1, .int .i64 pin] w r := by
 obtain ⟨p1, k1, p2, k2, p3, k3, rfl, s1, s2, s3⟩ := qai ha1
 refine qe Tryz.func246 rfl (m := 10) rfl rfl (fun h => ?_)
 rw [qeG] at hF
 refine zSR (qO h rfl rfl ?_)
 intro w1 bb1 h
 refine zp1 rfl (zNSR (zp1 rfl (zl 0 0 h rfl ?_)))
 obtain ⟨r1, hr1, hF⟩ := qd hF
 refine qT r1 h call163 (qf5 (h.old ha1) hr1) rfl rfl rfl rfl ?_
 intro w2 h
 refine zp1 rfl ?_
 obtain ⟨r2, hr2, hF⟩ := qd hF
 refine qn r2 h call86 (qau hr2) rfl rfl rfl rfl ?_
 intro w3 h
 exact zp1 rfl (qb (qw qc h hF ⟨rfl, trivial⟩))

def qfr (n : Nat) (a_0 : qB) (a_1 : qY) : Option Bool :=
 (qg0 n a_1.Kind).bind fun r1 =>
 bif r1 then
  (
   bif (a_1.Sense == 0) then
    bif ((a_1.Slew.length : Int) == 0) then
     (qd7 n a_1.Delay false).bind fun r2 =>
     bif r2 then
      (qfs n a_0).bind fun r3 =>
      bif (a_1.From == r3) then
       bif decide (a_1.From ≥ 0) then
        (qeG n a_0 a_1.To).bind fun r4 =>
        bif r4 then
         some (a_1.To != a_1.From)
        else
         some false
       else
        some false
      else
       some false
     else
      some false
    else
     some false
   else
    some false).bind fun b1 =>
  some b1
 else
  (
   (qd7 n a_1.Delay true).bind fun r6 =>
   bif (!r6) then
    some true
   else
    (qd7 n a_1.Slew true).bind fun r7 =>
    bif (!r7) then
     some true
    else
     (qdj n a_0).bind fun r8 =>
     bif (a_1.To != r8) then
      some true
     else
      (qeG n a_0 a_1.From).bind fun r9 =>
      some (!r9)).bind fun b2 =>
  bif b2 then
   some false
  else
   bif (a_1.Kind == 1) then
    (idx a_0.Pins a_1.From).bind fun y1 =>
    bif (!y1.Clock) then
     (qaN n a_1.Sense 1 3).bind fun r5 =>
     some r5
    else
     some false
   else
    (
     bif (a_1.Kind == 2) then
      some (a_1.Kind == 2)
     else
      some (a_1.Kind == 3)).bind fun b4 =>
    bif b4 then
     (idx a_0.Pins a_1.From).bind fun y2 =>
     bif y2.Clock then
      some (a_1.Sense == 0)
     else
      some false
    else
     some false

theorem qkj {n : Nat} {w : World} {a_0 : qB} {a_1 : qY} {cs1 : List Value} (ha1 : GoT.R w (old w) a_0 cs1) {cs2 : List Value} (ha2 : GoT.R w (old w) a_1 cs2) {r : Bool} (hF : qfr n a_0 a_1 = some r) : RetV Tryz.prog 230 [GoT.v qB cs1, GoT.v qY cs2] w r := by
 obtain ⟨p1, k1, p2, k2, p3, k3, rfl, s1, s2, s3⟩ := qai ha1
 obtain ⟨p4, k4, p5, k5, rfl, s4, s5⟩ := qaQ ha2
 refine qe Tryz.func230 rfl (m := 103) rfl rfl (fun h => ?_)
 rw [qfr] at hF
 refine zSR (qO h rfl rfl ?_)
 intro w1 bb1 h
 refine qO h rfl rfl ?_
 intro w2 bb2 h
 refine zp1 rfl (zNSSR (zp1 rfl (zl 0 0 h rfl ?_)))
 obtain ⟨r1, hr1, hF⟩ := qd hF
 refine qn r1 h call243 (qlc hr1) rfl rfl rfl rfl ?_
 intro w3 h
 refine qb ?_
 refine qr rfl hF ?_ ?_ <;> intro hF
 ·refine qbr ?_
  obtain ⟨KF1, hKF1, o1, hF, hK1⟩ := bindE hF
  refine qen (fun e w' => ∃ (b1 : Bool), KF1 b1 = some r ∧ e = [(4, .bool b1)] ∧ SH w w' []) ?_ ?_
  ·refine qc7 rfl (by kernel_rfl) ?_
   refine zd1 rfl ?_
   refine zdl 0 3 h rfl ?_
   refine zd2 rfl ?_
   by_cases hc2 : (a_1.Sense == 0) = true
   ·replace hF := bifT hc2 hF
    refine qdg hc2 (t := 11) rfl (qi rfl (zd1 rfl (qi rfl ?_)))
    refine zdl 0 5 h rfl ?_
    refine qi rfl (zd1 rfl (qi rfl (zd3 rfl ?_)))
    by_cases hc3 : ((a_1.Slew.length : Int) == 0) = true
    ·replace hF := bifT hc3 hF
     refine qdg hc3 (t := 17) rfl (qi rfl (zd1 rfl (qi rfl ?_)))
     refine zdl 0 4 h rfl ?_
     refine qi rfl ?_
     obtain ⟨r2, hr2, hF⟩ := qd hF
     refine qcI r2 (vsB _) call244 (fun _ hb => qgS ⟨_, _, rfl, ((h.ext hb).oldS s4)⟩ hr2) rfl rfl rfl rfl ?_
     refine zd2 rfl ?_
     by_cases hc4 : r2 = true
     ·replace hF := bifT hc4 hF
      refine qdg hc4 (t := 22) rfl (qi rfl (zd1 rfl (qi rfl ?_)))
      refine zdl 0 1 h rfl ?_
      refine qi rfl ?_
      refine zdl 1 0 h rfl ?_
      refine qi rfl ?_
      obtain ⟨r3, hr3, hF⟩ := qd hF
      refine qcI r3 (vsI _) call245 (fun _ hb => qke ((h.ext hb).old ha1) hr3) rfl rfl rfl rfl ?_
      refine qi rfl (zd3 rfl ?_)
      by_cases hc5 : (a_1.From == r3) = true
      ·replace hF := bifT hc5 hF
       refine qdg hc5 (t := 29) rfl (qi rfl (zd1 rfl (qi rfl ?_)))
       refine zdl 0 1 h rfl ?_
       refine qi rfl (zd3 rfl ?_)
       by_cases hc6 : (decide (a_1.From ≥ 0)) = true
       ·replace hF := bifT hc6 hF
        refine qdg hc6 (t := 34) rfl (qi rfl ?_)
        refine zdl 1 0 h rfl ?_
        refine qi rfl (zd1 rfl (qi rfl ?_))
        refine zdl 0 2 h rfl ?_
        refine qi rfl ?_
        obtain ⟨r4, hr4, hF⟩ := qd hF
        refine qcI r4 (vsB _) call246 (fun _ hb => qhP ((h.ext hb).old ha1) hr4) rfl rfl rfl rfl ?_
        refine zd2 rfl ?_
        by_cases hc7 : r4 = true
        ·replace hF := bifT hc7 hF
         refine qdg hc7 (t := 40) rfl (qi rfl (zd1 rfl (qi rfl ?_)))
         refine zdl 0 2 h rfl ?_
         refine qi rfl (zd1 rfl (qi rfl ?_))
         refine zdl 0 1 h rfl ?_
         refine qi rfl (zd3 rfl ?_)
         refine qbm (fun w4 hb => ?_)
         replace h := h.ext hb
         clear hb
         replace h := h.pick [] rfl
         obtain rfl := qh hF
         exact qx [(4, _)] ⟨rfl, trivial⟩ ⟨_, hK1, rfl, h⟩
        replace hc7 := zb hc7
        replace hF := bifF hc7 hF
        refine qdm hc7 (t := 40) rfl (qj rfl rfl rfl (qj rfl rfl rfl (qj rfl rfl rfl (qj rfl rfl rfl (qj rfl rfl rfl (zd2 rfl ?_))))))
        refine qbm (fun w5 hb => ?_)
        replace h := h.ext hb
        clear hb
        replace h := h.pick [] rfl
        obtain rfl := qh hF
        exact qx [(4, _)] ⟨rfl, trivial⟩ ⟨_, hK1, rfl, h⟩
       replace hc6 := zb hc6
       replace hF := bifF hc6 hF
       refine qdm hc6 (t := 34) rfl (qj rfl rfl rfl (qj rfl rfl rfl (qj rfl rfl rfl (qj rfl rfl rfl (zd2 rfl (qj rfl rfl rfl (qj rfl rfl rfl (qj rfl rfl rfl (qj rfl rfl rfl (qj rfl rfl rfl ?_))))))))))
       refine zd2 rfl ?_
       refine qbm (fun w6 hb => ?_)
       replace h := h.ext hb
       clear hb
       replace h := h.pick [] rfl
       obtain rfl := qh hF
       exact qx [(4, _)] ⟨rfl, trivial⟩ ⟨_, hK1, rfl, h⟩
      replace hc5 := zb hc5
      replace hF := bifF hc5 hF
      refine qdm hc5 (t := 29) rfl (qj rfl rfl rfl (qj rfl rfl rfl (qj rfl rfl rfl (zd2 rfl (qj rfl rfl rfl (qj rfl rfl rfl (qj rfl rfl rfl (qj rfl rfl rfl (zd2 rfl ?_)))))))))
      refine qj rfl rfl rfl (qj rfl rfl rfl (qj rfl rfl rfl (qj rfl rfl rfl (qj rfl rfl rfl (zd2 rfl ?_)))))
      refine qbm (fun w7 hb => ?_)
      replace h := h.ext hb
      clear hb
      replace h := h.pick [] rfl
      obtain rfl := qh hF
      exact qx [(4, _)] ⟨rfl, trivial⟩ ⟨_, hK1, rfl, h⟩
     replace hc4 := zb hc4
     replace hF := bifF hc4 hF
     refine qdm hc4 (t := 22) rfl (qj rfl rfl rfl (qj rfl rfl rfl (qj rfl rfl rfl (qj rfl rfl rfl (qj rfl rfl rfl (zd2 rfl (qj rfl rfl rfl (qj rfl rfl rfl (qj rfl rfl rfl (zd1 rfl ?_))))))))))
     refine zd1 rfl (qj rfl rfl rfl (qj rfl rfl rfl (qj rfl rfl rfl (qj rfl rfl rfl (zd2 rfl (qj rfl rfl rfl (qj rfl rfl rfl (qj rfl rfl rfl (qj rfl rfl rfl (qj rfl rfl rfl ?_))))))))))
     refine zd2 rfl ?_
     refine qbm (fun w8 hb => ?_)
     replace h := h.ext hb
     clear hb
     replace h := h.pick [] rfl
     obtain rfl := qh hF
     exact qx [(4, _)] ⟨rfl, trivial⟩ ⟨_, hK1, rfl, h⟩
    replace hc3 := zb hc3
    replace hF := bifF hc3 hF
    refine qdm hc3 (t := 17) rfl (qj rfl rfl rfl (qj rfl rfl rfl (qj rfl rfl rfl (zd2 rfl (qj rfl rfl rfl (qj rfl rfl rfl (qj rfl rfl rfl (qj rfl rfl rfl (qj rfl rfl rfl (zd1 rfl ?_))))))))))
    refine zd1 rfl (qj rfl rfl rfl (qj rfl rfl rfl (qj rfl rfl rfl (zd2 rfl (qj rfl rfl rfl (qj rfl rfl rfl (qj rfl rfl rfl (qj rfl rfl rfl (zd2 rfl ?_)))))))))
    refine qj rfl rfl rfl (qj rfl rfl rfl (qj rfl rfl rfl (qj rfl rfl rfl (qj rfl rfl rfl (zd2 rfl ?_)))))
    refine qbm (fun w9 hb => ?_)
    replace h := h.ext hb
    clear hb
    replace h := h.pick [] rfl
    obtain rfl := qh hF
    exact qx [(4, _)] ⟨rfl, trivial⟩ ⟨_, hK1, rfl, h⟩
   replace hc2 := zb hc2
   replace hF := bifF hc2 hF
   refine qdm hc2 (t := 11) rfl (qj rfl rfl rfl (qj rfl rfl rfl (qj rfl rfl rfl (qj rfl rfl rfl (zd2 rfl (qj rfl rfl rfl (qj rfl rfl rfl (qj rfl rfl rfl (zd2 rfl ?_)))))))))
   refine qj rfl rfl rfl (qj rfl rfl rfl (qj rfl rfl rfl (qj rfl rfl rfl (qj rfl rfl rfl (zd2 rfl (qj rfl rfl rfl (qj rfl rfl rfl (qj rfl rfl rfl (zd2 rfl ?_)))))))))
   refine qj rfl rfl rfl (qj rfl rfl rfl (qj rfl rfl rfl (qj rfl rfl rfl (zd2 rfl (qj rfl rfl rfl (qj rfl rfl rfl (qj rfl rfl rfl (qj rfl rfl rfl (qj rfl rfl rfl (zd1 rfl ?_))))))))))
   refine zd1 rfl ?_
   refine qbm (fun w10 hb => ?_)
   replace h := h.ext hb
   clear hb
   replace h := h.pick [] rfl
   obtain rfl := qh hF
   exact qx [(4, _)] ⟨rfl, trivial⟩ ⟨_, hK1, rfl, h⟩
  rintro e1 w11 ⟨b1, hF, rfl, h⟩
  subst hKF1
  exact qw qc h hF ⟨rfl, trivial⟩
 refine zKSS ?_
 obtain ⟨KF3, hKF3, o3, hF, hK3⟩ := bindE hF
 refine qen (fun e w' => ∃ (b2 : Bool), KF3 b2 = some r ∧ e = [(2, .pointer (some ⟨bb1, 0, none⟩)), (3, .pointer (some ⟨bb2, 0, none⟩)), (70, .bool b2)] ∧ SH w w' [Ch.box bb2 [.int .i64 a_1.Kind, .int .i64 a_1.From, .int .i64 a_1.To, .int .i64 a_1.Sense, .slice p4 a_1.Delay.length k4, .slice p5 a_1.Slew.length k5] 211, Ch.box bb1 [.string a_0.Name, .int .i64 a_0.Kind, .slice p1 a_0.Pins.length k1, .slice p2 a_0.Arcs.length k2, .slice p3 a_0.Truth.length k3, .int .i64 a_0.Leak, .int .i64 a_0.Energy] 183]) ?_ ?_
 ·refine qc7 rfl (by kernel_rfl) ?_
  refine zd1 rfl ?_
  refine zdl 0 4 h rfl ?_
  obtain ⟨r6, hr8, hF⟩ := qd hF
  refine qcI r6 (vsB _) call244 (fun _ hb => qgS ⟨_, _, rfl, ((h.ext hb).oldS s4)⟩ hr8) rfl rfl rfl rfl ?_
  refine zd2 rfl ?_
  by_cases hc16 : (!r6) = true
  ·replace hF := bifT hc16 hF
   refine qdg hc16 (t := 51) rfl (qj rfl rfl rfl (qj rfl rfl rfl (qj rfl rfl rfl (qj rfl rfl rfl (zd2 rfl (qj rfl rfl rfl (qj rfl rfl rfl (qj rfl rfl rfl (qj rfl rfl rfl (qj rfl rfl rfl ?_))))))))))
   refine zd2 rfl (qj rfl rfl rfl (qj rfl rfl rfl (qj rfl rfl rfl (qj rfl rfl rfl (qj rfl rfl rfl (zd1 rfl ?_))))))
   refine qbm (fun w14 hb => ?_)
   replace h := h.ext hb
   clear hb
   obtain rfl := qh hF
   exact qx [(2, _), (3, _), (70, _)] ⟨rfl, rfl, rfl, trivial⟩ ⟨_, hK3, rfl, h⟩
  replace hc16 := zb hc16
  replace hF := bifF hc16 hF
  refine qdm hc16 (t := 51) rfl (qi rfl (zd1 rfl (qi rfl ?_)))
  refine zdl 0 5 h rfl ?_
  refine qi rfl ?_
  obtain ⟨r7, hr9, hF⟩ := qd hF
  refine qcI r7 (vsB _) call244 (fun _ hb => qgS ⟨_, _, rfl, ((h.ext hb).oldS s5)⟩ hr9) rfl rfl rfl rfl ?_
  refine qi rfl (zd3 rfl ?_)
  by_cases hc17 : (!r7) = true
  ·replace hF := bifT hc17 hF
   refine qdg hc17 (t := 57) rfl (qj rfl rfl rfl (qj rfl rfl rfl (qj rfl rfl rfl (qj rfl rfl rfl (qj rfl rfl rfl (zd2 rfl (qj rfl rfl rfl (qj rfl rfl rfl (qj rfl rfl rfl (qj rfl rfl rfl ?_))))))))))
   refine qj rfl rfl rfl (zd1 rfl ?_)
   refine qbm (fun w15 hb => ?_)
   replace h := h.ext hb
   clear hb
   obtain rfl := qh hF
   exact qx [(2, _), (3, _), (70, _)] ⟨rfl, rfl, rfl, trivial⟩ ⟨_, hK3, rfl, h⟩
  replace hc17 := zb hc17
  replace hF := bifF hc17 hF
  refine qdm hc17 (t := 57) rfl (qi rfl (zd1 rfl (qi rfl ?_)))
  refine zdl 0 2 h rfl ?_
  refine qi rfl ?_
  refine zdl 1 0 h rfl ?_
  refine qi rfl ?_
  obtain ⟨r8, hr10, hF⟩ := qd hF
  refine qcI r8 (vsI _) call163 (fun _ hb => qf5 ((h.ext hb).old ha1) hr10) rfl rfl rfl rfl ?_
  refine qi rfl (zd3 rfl ?_)
  by_cases hc18 : (a_1.To != r8) = true
  ·replace hF := bifT hc18 hF
   refine qdg hc18 (t := 64) rfl (qj rfl rfl rfl (qj rfl rfl rfl (qj rfl rfl rfl (qj rfl rfl rfl (qj rfl rfl rfl (zd1 rfl ?_))))))
   refine qbm (fun w16 hb => ?_)
   replace h := h.ext hb
   clear hb
   obtain rfl := qh hF
   exact qx [(2, _), (3, _), (70, _)] ⟨rfl, rfl, rfl, trivial⟩ ⟨_, hK3, rfl, h⟩
  replace hc18 := zb hc18
  replace hF := bifF hc18 hF
  refine qdm hc18 (t := 64) rfl (qi rfl ?_)
  refine zdl 1 0 h rfl ?_
  refine qi rfl (zd1 rfl (qi rfl ?_))
  refine zdl 0 1 h rfl ?_
  refine qi rfl ?_
  obtain ⟨r9, hr11, hF⟩ := qd hF
  refine qcI r9 (vsB _) call246 (fun _ hb => qhP ((h.ext hb).old ha1) hr11) rfl rfl rfl rfl ?_
  refine qi rfl (zd2 rfl ?_)
  refine qbm (fun w17 hb => ?_)
  replace h := h.ext hb
  clear hb
  obtain rfl := qh hF
  exact qx [(2, _), (3, _), (70, _)] ⟨rfl, rfl, rfl, trivial⟩ ⟨_, hK3, rfl, h⟩
 rintro e3 w18 ⟨b2, hF, rfl, h⟩
 subst hKF3
 refine qr rfl hF ?_ ?_ <;> intro hF
 ·exact zSR (zp1 rfl (qb (qw qc h hF ⟨rfl, trivial⟩)))
 refine zKSSR (zp1 rfl (zl 0 0 h rfl (qb (zBSR (zp2 rfl ?_)))))
 refine qb ?_
 refine qr rfl hF ?_ ?_ <;> intro hF
 ·refine zSR (zp1 rfl (zl 1 2 h rfl (zp1 rfl (zl 0 1 h rfl ?_))))
  obtain ⟨y1, hy1, hF⟩ := qd hF
  have he1 := qg hy1
  obtain ⟨b3, o_1, q1, cs3, hp1, hq1, -, hr5, hc10⟩ := s1.at hy1
  obtain rfl := qa7 hr5
  refine zxe hp1 hq1 he1 rfl (zp1 rfl (zc 3 (hc10.below h.below) rfl (zp2 rfl ?_)))
  by_cases hc11 : (!y1.Clock) = true
  ·replace hF := bifT hc11 hF
   refine qD hc11 (t := 83) rfl (qa rfl (zp1 rfl (qa rfl (zl 0 3 h rfl (qa rfl ?_)))))
   obtain ⟨r5, hr6, hF⟩ := qd hF
   refine qn r5 h call86 (qau hr6) rfl rfl rfl rfl ?_
   intro w12 h
   exact zp2 rfl (qb (qw qc h hF ⟨rfl, trivial⟩))
  replace hc11 := zb hc11
  replace hF := bifF hc11 hF
  exact qE hc11 (t := 83) rfl (zn3 rfl (zp2 rfl (qb (qw qc h hF ⟨rfl, trivial⟩))))
 refine zSSR (zp2 rfl (qb ?_))
 obtain ⟨KF2, hKF2, o2, hF, hK2⟩ := bindE hF
 refine qen (fun e w' => ∃ (b4 : Bool), KF2 b4 = some r ∧ e = [(2, .pointer (some ⟨bb1, 0, none⟩)), (3, .pointer (some ⟨bb2, 0, none⟩)), (88, .bool b4)] ∧ SH w w' [Ch.box bb2 [.int .i64 a_1.Kind, .int .i64 a_1.From, .int .i64 a_1.To, .int .i64 a_1.Sense, .slice p4 a_1.Delay.length k4, .slice p5 a_1.Slew.length k5] 211, Ch.box bb1 [.string a_0.Name, .int .i64 a_0.Kind, .slice p1 a_0.Pins.length k1, .slice p2 a_0.Arcs.length k2, .slice p3 a_0.Truth.length k3, .int .i64 a_0.Leak, .int .i64 a_0.Energy] 183]) ?_ ?_
 ·refine qr rfl hF ?_ ?_ <;> intro hF
  ·refine qdH ?_
   obtain rfl := qh hF
   exact qx [(2, _), (3, _), (88, _)] ⟨rfl, rfl, rfl, trivial⟩ ⟨_, hK2, rfl, h⟩
  refine qy (zp2 rfl (qb ?_))
  obtain rfl := qh hF
  exact qx [(2, _), (3, _), (88, _)] ⟨rfl, rfl, rfl, trivial⟩ ⟨_, hK2, rfl, h⟩
 rintro e2 w13 ⟨b4, hF, rfl, h⟩
 subst hKF2
 refine qr rfl hF ?_ ?_ <;> intro hF
 ·refine zSR (zp1 rfl (zl 1 2 h rfl (zp1 rfl (zl 0 1 h rfl ?_))))
  obtain ⟨y2, hy2, hF⟩ := qd hF
  have he2 := qg hy2
  obtain ⟨b5, o_2, q2, cs4, hp2, hq2, -, hr7, hc13⟩ := s1.at hy2
  obtain rfl := qa7 hr7
  refine zxe hp2 hq2 he2 rfl (zp1 rfl (zc 3 (hc13.below h.below) rfl (zp1 rfl ?_)))
  by_cases hc14 : y2.Clock = true
  ·replace hF := bifT hc14 hF
   exact qD hc14 (t := 98) rfl (qa rfl (zp1 rfl (qa rfl (zl 0 3 h rfl (qa rfl (zp3 rfl (qb (qw qc h hF ⟨rfl, trivial⟩))))))))
  replace hc14 := zb hc14
  replace hF := bifF hc14 hF
  exact qE hc14 (t := 98) rfl (zn3 rfl (zp2 rfl (qb (qw qc h hF ⟨rfl, trivial⟩))))
 exact zKE (zSR (zp1 rfl (qb (qw qc h hF ⟨rfl, trivial⟩))))

def qdN (_ : Nat) (a_o : qY) (v0 : qY) : Option Bool :=
 bif (a_o.Kind == v0.Kind) then
  bif (a_o.From == v0.From) then
   some (a_o.To == v0.To)
  else
   some false
 else
  some false

theorem qi1 {n : Nat} {w : World} {a_o : qY} {v0 : qY} {cs1 : List Value} (ha1 : GoT.R w (old w) a_o cs1) {p3 : Option Addr} (ha2 : GoT.R w (old w) (some v0) [.pointer p3]) {r : Bool} (hF : qdN n a_o v0 = some r) : RetV Tryz.prog 231 [GoT.v qY cs1, .pointer p3] w r := by
 obtain ⟨p1, k1, p2, k2, rfl, s1, s2⟩ := qaQ ha1
 obtain ⟨b1, o_1, cs2, rfl, -, hr1, hc1⟩ := PtR.get ha2 rfl
 obtain ⟨p4, k3, p5, k4, rfl, s3, s4⟩ := qaQ hr1
 refine qe Tryz.func231 rfl (m := 23) rfl rfl (fun h => ?_)
 rw [qdN] at hF
 refine zSR (qO h rfl rfl ?_)
 intro w1 bb1 h
 refine zp1 rfl (zNSR (zp1 rfl (zl 0 0 h rfl (zp1 rfl (zc 0 (hc1.below h.below) rfl (zp2 rfl ?_))))))
 by_cases hc2 : (a_o.Kind == v0.Kind) = true
 ·replace hF := bifT hc2 hF
  refine qD hc2 (t := 9) rfl (qa rfl (zp1 rfl (qa rfl (zl 0 1 h rfl (qa rfl (zp1 rfl (qa rfl (zc 1 (hc1.below h.below) rfl (qa rfl (zp2 rfl ?_))))))))))
  refine zp1 rfl ?_
  by_cases hc3 : (a_o.From == v0.From) = true
  ·replace hF := bifT hc3 hF
   refine qD hc3 (t := 16) rfl (qa rfl (zp1 rfl (qa rfl (zl 0 2 h rfl (qa rfl (zp1 rfl (qa rfl (zc 2 (hc1.below h.below) rfl (qa rfl (zp2 rfl ?_))))))))))
   exact zp1 rfl (qb (qw qc h hF ⟨rfl, trivial⟩))
  replace hc3 := zb hc3
  replace hF := bifF hc3 hF
  exact qE hc3 (t := 16) rfl (zn5 rfl (zp2 rfl (qb (qw qc h hF ⟨rfl, trivial⟩))))
 replace hc2 := zb hc2
 replace hF := bifF hc2 hF
 refine qE hc2 (t := 9) rfl (zn5 rfl (zp2 rfl (zn4 rfl ?_)))
 exact zn1 rfl (zp2 rfl (qb (qw qc h hF ⟨rfl, trivial⟩)))

def qK (s : (List qY)) (f_0 : qY) : Nat → Int → Option (Flow Int Int)
 | 0, _ => none
 | n + 1, i1 =>
  bif decide (i1 < (s.length : Int)) then
   (idx s i1).bind fun y1 =>
   (qdN n y1 f_0).bind fun r1 =>
   bif r1 then
    some (.ret i1)
   else
    qK s f_0 n (W64 (i1 + 1))
  else
   some (.nxt i1)

def qaF (n : Nat) (s : (List qY)) (f_0 : qY) : Option Int :=
 (qK s f_0 n 0).bind fun o => match o with
 | .ret r => some r
 | .nxt _ =>
  some (-1)

theorem qeo {n : Nat} {w : World} {s : (List qY)} {f_0 : qY} {cs1 : List Value} (ha1 : GoT.R w (old w) s cs1) {p2 : Option Addr} (ha2 : GoT.R w (old w) (some f_0) [.pointer p2]) {r : Int} (hF : qaF n s f_0 = some r) : RetV Tryz.prog 191 [GoT.v (List qY) cs1, .func (.func 231) #[] #[.pointer p2]] w r := by
 obtain ⟨p1, k1, rfl, s1⟩ := ha1
 obtain ⟨b1, o_1, cs2, rfl, -, hr1, hc1⟩ := PtR.get ha2 rfl
 obtain ⟨p3, k2, p4, k3, rfl, s2, s3⟩ := qaQ hr1
 refine qe Tryz.func191 rfl (m := 19) rfl rfl (fun h => ?_)
 rw [qaF] at hF
 refine zSR (zp1 rfl (zNSSR (zp3 rfl (qb ?_))))
 obtain ⟨o1, hF, hK1⟩ := qd hF
 refine qv (qR [(0, _), (1, _), (7, _), (8, _)] ⟨rfl, rfl, rfl, rfl, trivial⟩ ?_)
 refine qI (fun m e w' => ∃ (i1 : Int), qK s f_0 m i1 = some o1 ∧ e = [(0, .slice p1 s.length k1), (1, .func (.func 231) #[] #[.pointer (some ⟨b1, o_1, none⟩)]), (7, .int .i64 (s.length : Int)), (8, .int .i64 i1)] ∧ SH w w' []) n ⟨_, hF, rfl, h⟩ ?_
 rintro m1 e1 w1 ⟨i1, hF, rfl, h⟩
 rcases m1 with _ | m1
 ·rw [qK] at hF
  cases hF
 rw [qK] at hF
 refine zSR (zp1 rfl (zNS ?_))
 refine qr rfl hF ?_ ?_ <;> intro hF
 ·refine zKSBSR (zp2 rfl (zNSR (zp2 rfl ?_)))
  refine zp1 rfl ?_
  obtain ⟨y1, hy1, hF⟩ := qd hF
  have he1 := qg hy1
  obtain ⟨b2, o_2, q1, cs3, hp1, hq1, -, hr2, hc3⟩ := s1.at hy1
  obtain ⟨p5, k4, p6, k5, rfl, s4, s5⟩ := qaQ hr2
  refine zxe hp1 hq1 he1 rfl (zc 0 (hc3.below h.below) rfl ?_)
  obtain ⟨r1, hr3, hF⟩ := qd hF
  refine qn r1 h call231 (qi1 (qgg y1 (h.oldS s4) (h.oldS s5)) (h.old ha2) hr3) rfl rfl rfl rfl ?_
  intro w2 h
  refine qb ?_
  refine qr rfl hF ?_ ?_ <;> intro hF
  ·refine zSR (zp2 rfl (qb ?_))
   obtain rfl := qh hF; replace hF := hK1
   exact qap qc h hF ⟨rfl, trivial⟩
  exact zKER (zp2 rfl (qb (qA m1 [(0, _), (1, _), (7, _), (8, _)] (Nat.lt_succ_self m1) ⟨rfl, rfl, rfl, rfl, trivial⟩ ⟨_, hF, rfl, h⟩)))
 refine qH rfl ?_
 obtain rfl := qh hF; replace hF := hK1
 exact zSR (zp1 rfl (qb (qap qc h hF ⟨rfl, trivial⟩)))

def qac (n : Nat) (s : (List qY)) (f_0 : qY) : Option Bool :=
 (qaF n s f_0).bind fun r1 =>
 some (decide (r1 ≥ 0))

theorem qdX {n : Nat} {w : World} {s : (List qY)} {f_0 : qY} {cs1 : List Value} (ha1 : GoT.R w (old w) s cs1) {p2 : Option Addr} (ha2 : GoT.R w (old w) (some f_0) [.pointer p2]) {r : Bool} (hF : qac n s f_0 = some r) : RetV Tryz.prog 160 [GoT.v (List qY) cs1, .func (.func 231) #[] #[.pointer p2]] w r := by
 obtain ⟨p1, k1, rfl, s1⟩ := ha1
 obtain ⟨b1, o_1, cs2, rfl, -, hr1, hc1⟩ := PtR.get ha2 rfl
 obtain ⟨p3, k2, p4, k3, rfl, s2, s3⟩ := qaQ hr1
 refine qe Tryz.func160 rfl (m := 9) rfl rfl (fun h => ?_)
 rw [qac] at hF
 refine zSR (zp1 rfl (zNSR (zp2 rfl ?_)))
 obtain ⟨r1, hr2, hF⟩ := qd hF
 refine qT r1 h call191 (qeo ⟨_, _, rfl, (h.oldS s1)⟩ (h.old ha2) hr2) rfl rfl rfl rfl ?_
 intro w1 h
 exact zp2 rfl (qb (qw qc h hF ⟨rfl, trivial⟩))

def qbq (c : qB) : Nat → Int → Option (Flow Bool Int)
 | 0, _ => none
 | n + 1, i1 =>
  bif decide (i1 < (c.Arcs.length : Int)) then
   (idx c.Arcs i1).bind fun y1 =>
   (qfr n c y1).bind fun r1 =>
   bif (!r1) then
    some (.ret false)
   else
    (subS c.Arcs 0 i1).bind fun x1 =>
    (qac n x1 y1).bind fun r2 =>
    bif r2 then
     some (.ret false)
    else
     qbq c n (W64 (i1 + 1))
  else
   some (.nxt i1)

def qev (n : Nat) (c : qB) : Option Bool :=
 (qbq c n 0).bind fun o => match o with
 | .ret r => some r
 | .nxt _ =>
  some (decide ((c.Arcs.length : Int) ≤ 8))

theorem qjl {n : Nat} {w : World} {c : qB} {cs1 : List Value} (ha1 : GoT.R w (old w) c cs1) {r : Bool} (hF : qev n c = some r) : RetV Tryz.prog 220 [GoT.v qB cs1] w r := by
 obtain ⟨p1, k1, p2, k2, p3, k3, rfl, s1, s2, s3⟩ := qai ha1
 refine qe Tryz.func220 rfl (m := 30) rfl rfl (fun h => ?_)
 rw [qev] at hF
 refine zSR (qO h rfl rfl ?_)
 intro w1 bb1 h
 refine zp1 rfl (zNSSR (zp1 rfl (zl 0 3 h rfl (zp2 rfl (qb ?_)))))
 obtain ⟨o1, hF, hK1⟩ := qd hF
 refine qv (qR [(1, _), (6, _), (7, _), (8, _)] ⟨rfl, rfl, rfl, rfl, trivial⟩ ?_)
 refine qI (fun m e w' => ∃ (i1 : Int), qbq c m i1 = some o1 ∧ e = [(1, .pointer (some ⟨bb1, 0, none⟩)), (6, .slice p2 c.Arcs.length k2), (7, .int .i64 (c.Arcs.length : Int)), (8, .int .i64 i1)] ∧ SH w w' [Ch.box bb1 [.string c.Name, .int .i64 c.Kind, .slice p1 c.Pins.length k1, .slice p2 c.Arcs.length k2, .slice p3 c.Truth.length k3, .int .i64 c.Leak, .int .i64 c.Energy] 183]) n ⟨_, hF, rfl, h⟩ ?_
 rintro m1 e1 w2 ⟨i1, hF, rfl, h⟩
 rcases m1 with _ | m1
 ·rw [qbq] at hF
  cases hF
 rw [qbq] at hF
 refine zSR (zp1 rfl (zNS ?_))
 refine qr rfl hF ?_ ?_ <;> intro hF
 ·refine zKSBSR (zp1 rfl ?_)
  obtain ⟨y1, hy1, hF⟩ := qd hF
  have he1 := qg hy1
  obtain ⟨b1, o_1, q1, cs2, hp1, hq1, -, hr1, hc2⟩ := s2.at hy1
  obtain ⟨p4, k4, p5, k5, rfl, s4, s5⟩ := qaQ hr1
  refine zxe hp1 hq1 he1 rfl (zc 0 (hc2.below h.below) rfl (qah qc h rfl rfl rfl ?_))
  intro w3 bb2 h
  refine zp1 rfl (zs 0 h rfl ?_)
  intro w4 h
  refine zNSR (zl 1 0 h rfl (zl 0 0 h rfl ?_))
  obtain ⟨r1, hr2, hF⟩ := qd hF
  refine qn r1 h call230 (qkj (h.old ha1) (qgg y1 (h.oldS s4) (h.oldS s5)) hr2) rfl rfl rfl rfl ?_
  intro w5 h
  refine zp2 rfl ?_
  by_cases hc3 : (!r1) = true
  ·replace hF := bifT hc3 hF
   refine qD hc3 (t := 17) rfl (zn5 rfl (zn1 rfl (zp1 rfl (qb (qeR rfl rfl (zSR ?_))))))
   refine zp1 rfl (qb ?_)
   obtain rfl := qh hF; replace hF := hK1
   exact qw qc h hF ⟨rfl, trivial⟩
  replace hc3 := zb hc3
  replace hF := bifF hc3 hF
  refine qE hc3 (t := 17) rfl (qa rfl (zp1 rfl (qa rfl (zl 1 3 h rfl (qa rfl (zp1 rfl (qa rfl ?_)))))))
  obtain ⟨x1, hx1, hF⟩ := qd hF
  obtain ⟨p6, k6, hp2, hk1, hl1, g1⟩ := qox (h.oldS s2) hx1
  refine r_v (qlS qc rfl rfl rfl (qoD g1 rfl) hp2 hk1 hl1 rfl rfl rfl rfl) rfl ?_
  have s6 := qoU s2 hx1 hp2 hk1
  refine qa rfl (zp1 rfl (qa rfl ?_))
  obtain ⟨r2, hr3, hF⟩ := qd hF
  refine qn r2 h call160 (qdX ⟨_, _, rfl, (h.oldS s6)⟩ (qie (x := y1) 0 h rfl (qgg y1 (h.oldS s4) (h.oldS s5))) hr3) rfl rfl rfl rfl ?_
  intro w6 h
  refine zp1 rfl (qb ?_)
  refine qr rfl hF ?_ ?_ <;> intro hF
  ·refine zSR (zp1 rfl (qb ?_))
   obtain rfl := qh hF; replace hF := hK1
   exact qw qc h hF ⟨rfl, trivial⟩
  refine zKER (zp2 rfl (qb ?_))
  replace h := h.pick [1] rfl
  exact qA m1 [(1, _), (6, _), (7, _), (8, _)] (Nat.lt_succ_self m1) ⟨rfl, rfl, rfl, rfl, trivial⟩ ⟨_, hF, rfl, h⟩
 refine qH rfl ?_
 obtain rfl := qh hF; replace hF := hK1
 exact zSR (zp1 rfl (zl 0 3 h rfl (zp3 rfl (qb (qw qc h hF ⟨rfl, trivial⟩)))))

def qgl (_ : Nat) (a : qY) (v0 : Int) : Option Bool :=
 some (a.Kind == v0)

theorem qka {n : Nat} {w : World} {a : qY} {v0 : Int} {cs1 : List Value} (ha1 : GoT.R w (old w) a cs1) {p3 : Option Addr} (ha2 : GoT.R w (old w) (some v0) [.pointer p3]) {r : Bool} (hF : qgl n a v0 = some r) : RetV Tryz.prog 247 [GoT.v qY cs1, .pointer p3] w r := by
 obtain ⟨p1, k1, p2, k2, rfl, s1, s2⟩ := qaQ ha1
 obtain ⟨b1, o_1, cs2, rfl, -, hr1, hc1⟩ := PtR.get ha2 rfl
 obtain rfl := hr1
 refine qe Tryz.func247 rfl (m := 8) rfl rfl (fun h => ?_)
 rw [qgl] at hF
 refine zSR (qO h rfl rfl ?_)
 intro w1 bb1 h
 exact zp1 rfl (zNSR (zp1 rfl (zl 0 0 h rfl (zc 0 (hc1.below h.below) rfl (zp2 rfl (qb (qw qc h hF ⟨rfl, trivial⟩)))))))

def qN (s : (List qY)) (f_0 : Int) : Nat → Int → Option (Flow Int Int)
 | 0, _ => none
 | n + 1, i1 =>
  bif decide (i1 < (s.length : Int)) then
   (idx s i1).bind fun y1 =>
   (qgl n y1 f_0).bind fun r1 =>
   bif r1 then
    some (.ret i1)
   else
    qN s f_0 n (W64 (i1 + 1))
  else
   some (.nxt i1)

def qaV (n : Nat) (s : (List qY)) (f_0 : Int) : Option Int :=
 (qN s f_0 n 0).bind fun o => match o with
 | .ret r => some r
 | .nxt _ =>
  some (-1)

theorem qeT {n : Nat} {w : World} {s : (List qY)} {f_0 : Int} {cs1 : List Value} (ha1 : GoT.R w (old w) s cs1) {p2 : Option Addr} (ha2 : GoT.R w (old w) (some f_0) [.pointer p2]) {r : Int} (hF : qaV n s f_0 = some r) : RetV Tryz.prog 191 [GoT.v (List qY) cs1, .func (.func 247) #[] #[.pointer p2]] w r := by
 obtain ⟨p1, k1, rfl, s1⟩ := ha1
 obtain ⟨b1, o_1, cs2, rfl, -, hr1, hc1⟩ := PtR.get ha2 rfl
 obtain rfl := hr1
 refine qe Tryz.func191 rfl (m := 19) rfl rfl (fun h => ?_)
 rw [qaV] at hF
 refine zSR (zp1 rfl (zNSSR (zp3 rfl (qb ?_))))
 obtain ⟨o1, hF, hK1⟩ := qd hF
 refine qv (qR [(0, _), (1, _), (7, _), (8, _)] ⟨rfl, rfl, rfl, rfl, trivial⟩ ?_)
 refine qI (fun m e w' => ∃ (i1 : Int), qN s f_0 m i1 = some o1 ∧ e = [(0, .slice p1 s.length k1), (1, .func (.func 247) #[] #[.pointer (some ⟨b1, o_1, none⟩)]), (7, .int .i64 (s.length : Int)), (8, .int .i64 i1)] ∧ SH w w' []) n ⟨_, hF, rfl, h⟩ ?_
 rintro m1 e1 w1 ⟨i1, hF, rfl, h⟩
 rcases m1 with _ | m1
 ·rw [qN] at hF
  cases hF
 rw [qN] at hF
 refine zSR (zp1 rfl (zNS ?_))
 refine qr rfl hF ?_ ?_ <;> intro hF
 ·refine zKSBSR (zp2 rfl (zNSR (zp2 rfl ?_)))
  refine zp1 rfl ?_
  obtain ⟨y1, hy1, hF⟩ := qd hF
  have he1 := qg hy1
  obtain ⟨b2, o_2, q1, cs3, hp1, hq1, -, hr2, hc3⟩ := s1.at hy1
  obtain ⟨p3, k2, p4, k3, rfl, s2, s3⟩ := qaQ hr2
  refine zxe hp1 hq1 he1 rfl (zc 0 (hc3.below h.below) rfl ?_)
  obtain ⟨r1, hr3, hF⟩ := qd hF
  refine qn r1 h call247 (qka (qgg y1 (h.oldS s2) (h.oldS s3)) (h.old ha2) hr3) rfl rfl rfl rfl ?_
  intro w2 h
  refine qb ?_
  refine qr rfl hF ?_ ?_ <;> intro hF
  ·refine zSR (zp2 rfl (qb ?_))
   obtain rfl := qh hF; replace hF := hK1
   exact qap qc h hF ⟨rfl, trivial⟩
  exact zKER (zp2 rfl (qb (qA m1 [(0, _), (1, _), (7, _), (8, _)] (Nat.lt_succ_self m1) ⟨rfl, rfl, rfl, rfl, trivial⟩ ⟨_, hF, rfl, h⟩)))
 refine qH rfl ?_
 obtain rfl := qh hF; replace hF := hK1
 exact zSR (zp1 rfl (qb (qap qc h hF ⟨rfl, trivial⟩)))

def qaK (n : Nat) (s : (List qY)) (f_0 : Int) : Option Bool :=
 (qaV n s f_0).bind fun r1 =>
 some (decide (r1 ≥ 0))

theorem qex {n : Nat} {w : World} {s : (List qY)} {f_0 : Int} {cs1 : List Value} (ha1 : GoT.R w (old w) s cs1) {p2 : Option Addr} (ha2 : GoT.R w (old w) (some f_0) [.pointer p2]) {r : Bool} (hF : qaK n s f_0 = some r) : RetV Tryz.prog 160 [GoT.v (List qY) cs1, .func (.func 247) #[] #[.pointer p2]] w r := by
 obtain ⟨p1, k1, rfl, s1⟩ := ha1
 obtain ⟨b1, o_1, cs2, rfl, -, hr1, hc1⟩ := PtR.get ha2 rfl
 obtain rfl := hr1
 refine qe Tryz.func160 rfl (m := 9) rfl rfl (fun h => ?_)
 rw [qaK] at hF
 refine zSR (zp1 rfl (zNSR (zp2 rfl ?_)))
 obtain ⟨r1, hr2, hF⟩ := qd hF
 refine qT r1 h call191 (qeT ⟨_, _, rfl, (h.oldS s1)⟩ (h.old ha2) hr2) rfl rfl rfl rfl ?_
 intro w1 h
 exact zp2 rfl (qb (qw qc h hF ⟨rfl, trivial⟩))

def qcJ (n : Nat) (c : qB) (kind : Int) : Option Bool :=
 (qaK n c.Arcs kind).bind fun r1 =>
 some r1

theorem qd1 {n : Nat} {w : World} {c : qB} {kind : Int} {cs1 : List Value} (ha1 : GoT.R w (old w) c cs1) {r : Bool} (hF : qcJ n c kind = some r) : RetV Tryz.prog 232 [GoT.v qB cs1, .int .i64 kind] w r := by
 obtain ⟨p1, k1, p2, k2, p3, k3, rfl, s1, s2, s3⟩ := qai ha1
 refine qe Tryz.func232 rfl (m := 9) rfl rfl (fun h => ?_)
 rw [qcJ] at hF
 refine zSR (qO h rfl rfl ?_)
 intro w1 bb1 h
 refine qO h rfl rfl ?_
 intro w2 bb2 h
 refine zp1 rfl (zNSR (zp1 rfl (zl 1 3 h rfl (zp1 rfl ?_))))
 obtain ⟨r1, hr1, hF⟩ := qd hF
 refine qn r1 h call160 (qex ⟨_, _, rfl, (h.oldS s2)⟩ (qie (x := kind) 0 h rfl rfl) hr1) rfl rfl rfl rfl ?_
 intro w3 h
 exact zp1 rfl (qb (qw qc h hF ⟨rfl, trivial⟩))

def qaL (a_0 : qB) : Nat → Int → Int → Option (Int × Int)
 | 0, _, _ => none
 | n + 1, i1, i2 =>
  bif decide (i2 < (a_0.Pins.length : Int)) then
   (idx a_0.Pins i2).bind fun y1 =>
   bif y1.Clock then
    qaL a_0 n (W64 (i1 + 1)) (W64 (i2 + 1))
   else
    qaL a_0 n i1 (W64 (i2 + 1))
  else
   some (i1, i2)

def qei (n : Nat) (a_0 : qB) : Option Bool :=
 (qaL a_0 n 0 0).bind fun o => match o with
 | (i1, _) =>
  bif (a_0.Kind == 1) then
   bif (i1 == 0) then
    (qdj n a_0).bind fun r1 =>
    (shlS 1 r1).bind fun y2 =>
    bif ((a_0.Truth.length : Int) == y2) then
     (qbx n a_0.Truth 0 1).bind fun r2 =>
     some r2
    else
     some false
   else
    some false
  else
   bif (a_0.Kind == 2) then
    bif (i1 == 1) then
     bif ((a_0.Truth.length : Int) == 0) then
      (qcJ n a_0 1).bind fun r3 =>
      bif (!r3) then
       (qcJ n a_0 2).bind fun r4 =>
       (qcJ n a_0 3).bind fun r5 =>
       some (!(r4 == r5))
      else
       some false
     else
      some false
    else
     some false
   else
    bif (a_0.Kind == 3) then
     bif (i1 == 1) then
      bif ((a_0.Truth.length : Int) == 0) then
       (qcJ n a_0 1).bind fun r6 =>
       bif r6 then
        (qcJ n a_0 2).bind fun r7 =>
        bif r7 then
         (qcJ n a_0 3).bind fun r8 =>
         some (!r8)
        else
         some false
       else
        some false
      else
       some false
     else
      some false
    else
     some false

theorem qjd {n : Nat} {w : World} {a_0 : qB} {cs1 : List Value} (ha1 : GoT.R w (old w) a_0 cs1) {r : Bool} (hF : qei n a_0 = some r) : RetV Tryz.prog 221 [GoT.v qB cs1] w r := by
 obtain ⟨p1, k1, p2, k2, p3, k3, rfl, s1, s2, s3⟩ := qai ha1
 refine qe Tryz.func221 rfl (m := 83) rfl rfl (fun h => ?_)
 rw [qei] at hF
 refine zSR (qO h rfl rfl ?_)
 intro w1 bb1 h
 refine zp1 rfl (zNSR (zp1 rfl (zNSSR (zp1 rfl (zl 0 2 h rfl (zp1 rfl ?_))))))
 refine zp1 rfl (qb ?_)
 obtain ⟨o1, hF, hK1⟩ := qd hF
 refine qv (qR [(1, _), (3, _), (7, _), (8, _), (9, _)] ⟨rfl, rfl, rfl, rfl, rfl, trivial⟩ ?_)
 refine qI (fun m e w' => ∃ (i1 : Int) (i2 : Int), qaL a_0 m i1 i2 = some o1 ∧ e = [(1, .pointer (some ⟨bb1, 0, none⟩)), (3, .int .i64 i1), (7, .slice p1 a_0.Pins.length k1), (8, .int .i64 (a_0.Pins.length : Int)), (9, .int .i64 i2)] ∧ SH w w' [Ch.box bb1 [.string a_0.Name, .int .i64 a_0.Kind, .slice p1 a_0.Pins.length k1, .slice p2 a_0.Arcs.length k2, .slice p3 a_0.Truth.length k3, .int .i64 a_0.Leak, .int .i64 a_0.Energy] 183]) n ⟨_, _, hF, rfl, h⟩ ?_
 rintro m1 e1 w2 ⟨i1, i2, hF, rfl, h⟩
 rcases m1 with _ | m1
 ·rw [qaL] at hF
  cases hF
 rw [qaL] at hF
 refine zSR (zp1 rfl (zNS ?_))
 refine qr rfl hF ?_ ?_ <;> intro hF
 ·refine zKSBSR ?_
  obtain ⟨y1, hy1, hF⟩ := qd hF
  have he1 := qg hy1
  obtain ⟨b1, o_1, q1, cs2, hp1, hq1, -, hr1, hc2⟩ := s1.at hy1
  obtain rfl := qa7 hr1
  refine zxe hp1 hq1 he1 rfl (zc 0 (hc2.below h.below) rfl (qah qc h rfl rfl rfl ?_))
  intro w3 bb2 h
  refine zs 0 h rfl ?_
  intro w4 h
  refine zNSR (zp1 rfl (zl 0 3 h rfl (qb ?_)))
  refine qr rfl hF ?_ ?_ <;> intro hF
  ·refine qy (zp3 rfl (zNER (zp2 rfl (qb ?_))))
   replace h := h.pick [1] rfl
   exact qA m1 [(1, _), (3, _), (7, _), (8, _), (9, _)] (Nat.lt_succ_self m1) ⟨rfl, rfl, rfl, rfl, rfl, trivial⟩ ⟨_, _, hF, rfl, h⟩
  refine zKER (zp2 rfl (qb ?_))
  replace h := h.pick [1] rfl
  exact qA m1 [(1, _), (3, _), (7, _), (8, _), (9, _)] (Nat.lt_succ_self m1) ⟨rfl, rfl, rfl, rfl, rfl, trivial⟩ ⟨_, _, hF, rfl, h⟩
 refine qH rfl ?_
 obtain rfl := qh hF; replace hF := hK1
 refine zSSR (zp1 rfl (zl 0 1 h rfl (qb (zBSR (zp2 rfl (qb ?_))))))
 refine qr rfl hF ?_ ?_ <;> intro hF
 ·refine qbr ?_
  refine qc7 rfl (by kernel_rfl) ?_
  refine zd3 rfl ?_
  by_cases hc5 : (i1 == 0) = true
  ·replace hF := bifT hc5 hF
   refine qdg hc5 (t := 24) rfl (qi rfl (zd1 rfl (qi rfl ?_)))
   refine zdl 0 4 h rfl ?_
   refine qi rfl (zd1 rfl (qi rfl ?_))
   refine zdl 0 0 h rfl ?_
   refine qi rfl ?_
   obtain ⟨r1, hr2, hF⟩ := qd hF
   refine qcI r1 (vsI _) call163 (fun _ hb => qf5 ((h.ext hb).old ha1) hr2) rfl rfl rfl rfl ?_
   refine qi rfl ?_
   obtain ⟨y2, hx1, hF⟩ := qd hF
   obtain ⟨g1, hx1⟩ := qmP hx1
   refine d_v (fun _ hb => qrx g1 rfl rfl) rfl ?_
   rw [hx1]
   refine qi rfl (zd3 rfl ?_)
   by_cases hc6 : ((a_0.Truth.length : Int) == y2) = true
   ·replace hF := bifT hc6 hF
    refine qdg hc6 (t := 33) rfl (qi rfl (zd1 rfl (qi rfl ?_)))
    refine zdl 0 4 h rfl ?_
    refine qi rfl ?_
    obtain ⟨r2, hr3, hF⟩ := qd hF
    refine qcI r2 (vsB _) call112 (fun _ hb => qcQ ⟨_, _, rfl, ((h.ext hb).oldS s3)⟩ hr3) rfl rfl rfl rfl ?_
    refine zd2 rfl ?_
    refine qbm (fun w5 hb => ?_)
    replace h := h.ext hb
    clear hb
    exact qw qc h hF ⟨rfl, trivial⟩
   replace hc6 := zb hc6
   replace hF := bifF hc6 hF
   refine qdm hc6 (t := 33) rfl (qj rfl rfl rfl (qj rfl rfl rfl (qj rfl rfl rfl (zd2 rfl ?_))))
   refine qbm (fun w6 hb => ?_)
   replace h := h.ext hb
   clear hb
   exact qw qc h hF ⟨rfl, trivial⟩
  replace hc5 := zb hc5
  replace hF := bifF hc5 hF
  refine qdm hc5 (t := 24) rfl (qj rfl rfl rfl (qj rfl rfl rfl (qj rfl rfl rfl (qj rfl rfl rfl (qj rfl rfl rfl (qj rfl rfl rfl (qj rfl rfl rfl (zd2 rfl (qj rfl rfl rfl (qj rfl rfl rfl ?_))))))))))
  refine qj rfl rfl rfl (zd2 rfl ?_)
  refine qbm (fun w7 hb => ?_)
  replace h := h.ext hb
  clear hb
  exact qw qc h hF ⟨rfl, trivial⟩
 refine zSR (zp2 rfl (qb ?_))
 refine qr rfl hF ?_ ?_ <;> intro hF
 ·refine qbr ?_
  refine qc7 rfl (by kernel_rfl) ?_
  refine zd3 rfl ?_
  by_cases hc8 : (i1 == 1) = true
  ·replace hF := bifT hc8 hF
   refine qdg hc8 (t := 42) rfl (qi rfl (zd1 rfl (qi rfl ?_)))
   refine zdl 0 4 h rfl ?_
   refine qi rfl (zd1 rfl (qi rfl (zd3 rfl ?_)))
   by_cases hc9 : ((a_0.Truth.length : Int) == 0) = true
   ·replace hF := bifT hc9 hF
    refine qdg hc9 (t := 48) rfl (qi rfl ?_)
    refine zdl 0 0 h rfl ?_
    refine qi rfl ?_
    obtain ⟨r3, hr4, hF⟩ := qd hF
    refine qcI r3 (vsB _) call232 (fun _ hb => qd1 ((h.ext hb).old ha1) hr4) rfl rfl rfl rfl ?_
    refine qi rfl (zd3 rfl ?_)
    by_cases hc10 : (!r3) = true
    ·replace hF := bifT hc10 hF
     refine qdg hc10 (t := 53) rfl (qi rfl ?_)
     refine zdl 0 0 h rfl ?_
     refine qi rfl ?_
     obtain ⟨r4, hr5, hF⟩ := qd hF
     refine qcI r4 (vsB _) call232 (fun _ hb => qd1 ((h.ext hb).old ha1) hr5) rfl rfl rfl rfl ?_
     refine qi rfl ?_
     refine zdl 0 0 h rfl ?_
     refine qi rfl ?_
     obtain ⟨r5, hr6, hF⟩ := qd hF
     refine qcI r5 (vsB _) call232 (fun _ hb => qd1 ((h.ext hb).old ha1) hr6) rfl rfl rfl rfl ?_
     refine qi rfl (zd3 rfl ?_)
     refine qbm (fun w8 hb => ?_)
     replace h := h.ext hb
     clear hb
     exact qw qc h hF ⟨rfl, trivial⟩
    replace hc10 := zb hc10
    replace hF := bifF hc10 hF
    refine qdm hc10 (t := 53) rfl (qj rfl rfl rfl (qj rfl rfl rfl (qj rfl rfl rfl (qj rfl rfl rfl (qj rfl rfl rfl (zd2 rfl ?_))))))
    refine qbm (fun w9 hb => ?_)
    replace h := h.ext hb
    clear hb
    exact qw qc h hF ⟨rfl, trivial⟩
   replace hc9 := zb hc9
   replace hF := bifF hc9 hF
   refine qdm hc9 (t := 48) rfl (qj rfl rfl rfl (qj rfl rfl rfl (qj rfl rfl rfl (zd2 rfl (qj rfl rfl rfl (qj rfl rfl rfl (qj rfl rfl rfl (qj rfl rfl rfl (qj rfl rfl rfl (zd1 rfl ?_))))))))))
   refine zd1 rfl ?_
   refine qbm (fun w10 hb => ?_)
   replace h := h.ext hb
   clear hb
   exact qw qc h hF ⟨rfl, trivial⟩
  replace hc8 := zb hc8
  replace hF := bifF hc8 hF
  refine qdm hc8 (t := 42) rfl (qj rfl rfl rfl (qj rfl rfl rfl (qj rfl rfl rfl (qj rfl rfl rfl (zd2 rfl (qj rfl rfl rfl (qj rfl rfl rfl (qj rfl rfl rfl (zd2 rfl ?_)))))))))
  refine qj rfl rfl rfl (qj rfl rfl rfl (qj rfl rfl rfl (qj rfl rfl rfl (qj rfl rfl rfl (zd2 rfl ?_)))))
  refine qbm (fun w11 hb => ?_)
  replace h := h.ext hb
  clear hb
  exact qw qc h hF ⟨rfl, trivial⟩
 refine zSR (zp2 rfl (qb ?_))
 refine qr rfl hF ?_ ?_ <;> intro hF
 ·refine zSR (zp3 rfl ?_)
  by_cases hc12 : (i1 == 1) = true
  ·replace hF := bifT hc12 hF
   refine qD hc12 (t := 64) rfl (qa rfl (zp1 rfl (qa rfl (zl 0 4 h rfl (qa rfl (zp1 rfl (qa rfl (zp3 rfl ?_))))))))
   by_cases hc13 : ((a_0.Truth.length : Int) == 0) = true
   ·replace hF := bifT hc13 hF
    refine qD hc13 (t := 70) rfl (qa rfl (zl 0 0 h rfl (qa rfl ?_)))
    obtain ⟨r6, hr7, hF⟩ := qd hF
    refine qn r6 h call232 (qd1 (h.old ha1) hr7) rfl rfl rfl rfl ?_
    intro w12 h
    refine zp2 rfl ?_
    by_cases hc14 : r6 = true
    ·replace hF := bifT hc14 hF
     refine qD hc14 (t := 74) rfl (qa rfl (zl 0 0 h rfl (qa rfl ?_)))
     obtain ⟨r7, hr8, hF⟩ := qd hF
     refine qn r7 h call232 (qd1 (h.old ha1) hr8) rfl rfl rfl rfl ?_
     intro w13 h
     refine zp2 rfl ?_
     by_cases hc15 : r7 = true
     ·replace hF := bifT hc15 hF
      refine qD hc15 (t := 78) rfl (qa rfl (zl 0 0 h rfl (qa rfl ?_)))
      obtain ⟨r8, hr9, hF⟩ := qd hF
      refine qn r8 h call232 (qd1 (h.old ha1) hr9) rfl rfl rfl rfl ?_
      intro w14 h
      exact qa rfl (zp3 rfl (qb (qw qc h hF ⟨rfl, trivial⟩)))
     replace hc15 := zb hc15
     replace hF := bifF hc15 hF
     exact qE hc15 (t := 78) rfl (zn3 rfl (zp2 rfl (qb (qw qc h hF ⟨rfl, trivial⟩))))
    replace hc14 := zb hc14
    replace hF := bifF hc14 hF
    exact qE hc14 (t := 74) rfl (zn2 rfl (zp2 rfl (zn3 rfl (zp2 rfl (qb (qw qc h hF ⟨rfl, trivial⟩))))))
   replace hc13 := zb hc13
   replace hF := bifF hc13 hF
   refine qE hc13 (t := 70) rfl (zn2 rfl (zp2 rfl (zn2 rfl (zp2 rfl (zn3 rfl ?_)))))
   exact zp2 rfl (qb (qw qc h hF ⟨rfl, trivial⟩))
  replace hc12 := zb hc12
  replace hF := bifF hc12 hF
  refine qE hc12 (t := 64) rfl (zn4 rfl (zp2 rfl (zn2 rfl (zp2 rfl (zn1 rfl ?_)))))
  exact zn1 rfl (zp2 rfl (zn3 rfl (zp2 rfl (qb (qw qc h hF ⟨rfl, trivial⟩)))))
 exact zKE (zSR (zp1 rfl (qb (qw qc h hF ⟨rfl, trivial⟩))))

def qhR (n : Nat) (c : qB) : Option Bool :=
 (qgE n c.Name).bind fun r1 =>
 bif r1 then
  (qha n c.Pins).bind fun r2 =>
  bif r2 then
   (qev n c).bind fun r3 =>
   bif r3 then
    (qaN n c.Leak 0 100000).bind fun r4 =>
    bif r4 then
     (qaN n c.Energy 0 100000).bind fun r5 =>
     bif r5 then
      (qei n c).bind fun r6 =>
      some r6
     else
      some false
    else
     some false
   else
    some false
  else
   some false
 else
  some false

theorem ql4 {n : Nat} {w : World} {c : qB} {cs1 : List Value} (ha1 : GoT.R w (old w) c cs1) {r : Bool} (hF : qhR n c = some r) : RetV Tryz.prog 204 [GoT.v qB cs1] w r := by
 obtain ⟨p1, k1, p2, k2, p3, k3, rfl, s1, s2, s3⟩ := qai ha1
 refine qe Tryz.func204 rfl (m := 29) rfl rfl (fun h => ?_)
 rw [qhR] at hF
 refine zSR (qO h rfl rfl ?_)
 intro w1 bb1 h
 refine zp1 rfl (zNSR (zp1 rfl (zl 0 0 h rfl ?_)))
 obtain ⟨r1, hr1, hF⟩ := qd hF
 refine qn r1 h call218 (qjw hr1) rfl rfl rfl rfl ?_
 intro w2 h
 refine zp1 rfl ?_
 by_cases hc1 : r1 = true
 ·replace hF := bifT hc1 hF
  refine qD hc1 (t := 6) rfl (qa rfl (zp1 rfl (qa rfl (zl 0 2 h rfl (qa rfl ?_)))))
  obtain ⟨r2, hr2, hF⟩ := qd hF
  refine qn r2 h call219 (qlC ⟨_, _, rfl, (h.oldS s1)⟩ hr2) rfl rfl rfl rfl ?_
  intro w3 h
  refine zp2 rfl ?_
  by_cases hc2 : r2 = true
  ·replace hF := bifT hc2 hF
   refine qD hc2 (t := 11) rfl (qa rfl (zl 0 0 h rfl (qa rfl ?_)))
   obtain ⟨r3, hr3, hF⟩ := qd hF
   refine qn r3 h call220 (qjl (h.old ha1) hr3) rfl rfl rfl rfl ?_
   intro w4 h
   refine zp2 rfl ?_
   by_cases hc3 : r3 = true
   ·replace hF := bifT hc3 hF
    refine qD hc3 (t := 15) rfl (qa rfl (zp1 rfl (qa rfl (zl 0 5 h rfl (qa rfl ?_)))))
    obtain ⟨r4, hr4, hF⟩ := qd hF
    refine qn r4 h call86 (qau hr4) rfl rfl rfl rfl ?_
    intro w5 h
    refine zp2 rfl ?_
    by_cases hc4 : r4 = true
    ·replace hF := bifT hc4 hF
     refine qD hc4 (t := 20) rfl (qa rfl (zp1 rfl (qa rfl (zl 0 6 h rfl (qa rfl ?_)))))
     obtain ⟨r5, hr5, hF⟩ := qd hF
     refine qn r5 h call86 (qau hr5) rfl rfl rfl rfl ?_
     intro w6 h
     refine zp2 rfl ?_
     by_cases hc5 : r5 = true
     ·replace hF := bifT hc5 hF
      refine qD hc5 (t := 25) rfl (qa rfl (zl 0 0 h rfl (qa rfl ?_)))
      obtain ⟨r6, hr6, hF⟩ := qd hF
      refine qn r6 h call221 (qjd (h.old ha1) hr6) rfl rfl rfl rfl ?_
      intro w7 h
      exact zp2 rfl (qb (qw qc h hF ⟨rfl, trivial⟩))
     replace hc5 := zb hc5
     replace hF := bifF hc5 hF
     exact qE hc5 (t := 25) rfl (zn2 rfl (zp2 rfl (qb (qw qc h hF ⟨rfl, trivial⟩))))
    replace hc4 := zb hc4
    replace hF := bifF hc4 hF
    exact qE hc4 (t := 20) rfl (zn3 rfl (zp2 rfl (zn2 rfl (zp2 rfl (qb (qw qc h hF ⟨rfl, trivial⟩))))))
   replace hc3 := zb hc3
   replace hF := bifF hc3 hF
   refine qE hc3 (t := 15) rfl (zn3 rfl (zp2 rfl (zn3 rfl (zp2 rfl (zn1 rfl ?_)))))
   exact zn1 rfl (zp2 rfl (qb (qw qc h hF ⟨rfl, trivial⟩)))
  replace hc2 := zb hc2
  replace hF := bifF hc2 hF
  refine qE hc2 (t := 11) rfl (zn2 rfl (zp2 rfl (zn3 rfl (zp2 rfl (zn2 rfl ?_)))))
  exact zn1 rfl (zp2 rfl (zn2 rfl (zp2 rfl (qb (qw qc h hF ⟨rfl, trivial⟩)))))
 replace hc1 := zb hc1
 replace hF := bifF hc1 hF
 refine qE hc1 (t := 6) rfl (zn3 rfl (zp2 rfl (zn2 rfl (zp2 rfl (zn2 rfl ?_)))))
 refine zn1 rfl (zp2 rfl (zn3 rfl (zp2 rfl (zn2 rfl (zp2 rfl ?_)))))
 exact qb (qw qc h hF ⟨rfl, trivial⟩)

def qbI (l : qz) : Nat → (List ByteArray) → Int → Option (Flow Bool ((List ByteArray) × Int))
 | 0, _, _ => none
 | n + 1, x1, i1 =>
  bif decide (i1 < (l.Cells.length : Int)) then
   (idx l.Cells i1).bind fun y1 =>
   (qhR n y1).bind fun r1 =>
   bif (!r1) then
    some (.ret false)
   else
    (appS x1 ([y1.Name] : List ByteArray)).bind fun x2 =>
    qbI l n x2 (W64 (i1 + 1))
  else
   some (.nxt (x1, i1))

def qfM (n : Nat) (l : qz) : Option Bool :=
 (qbI l n ([] : List ByteArray) 0).bind fun o => match o with
 | .ret r => some r
 | .nxt (x1, _) =>
  bif decide ((l.Cells.length : Int) ≤ 8) then
   (qdq n x1).bind fun r2 =>
   some r2
  else
   some false

theorem qky {n : Nat} {w : World} {l : qz} {cs1 : List Value} (ha1 : GoT.R w (old w) l cs1) {r : Bool} (hF : qfM n l = some r) : RetV Tryz.prog 179 [GoT.v qz cs1] w r := by
 obtain ⟨p1, k1, rfl, s1⟩ := qb3 ha1
 refine qe Tryz.func179 rfl (m := 30) rfl rfl (fun h => ?_)
 rw [qfM] at hF
 refine zSR (qO h rfl rfl ?_)
 intro w1 bb1 h
 refine zp1 rfl (zNSR (zp1 rfl (zNSSR (zp1 rfl (zl 0 0 h rfl (zp1 rfl ?_))))))
 refine zp1 rfl (qb ?_)
 replace h := h.nil (α := ByteArray)
 obtain ⟨o1, hF, hK1⟩ := qd hF
 refine qv (qR [(1, _), (3, _), (7, _), (8, _), (9, _)] ⟨rfl, rfl, rfl, rfl, rfl, trivial⟩ ?_)
 refine qI (fun m e w' => ∃ (S1 : Nat → Prop) (p2 : Option Addr) (ln1 : Nat) (k2 : Nat) (x1 : (List ByteArray)) (i1 : Int), qbI l m x1 i1 = some o1 ∧ e = [(1, .pointer (some ⟨bb1, 0, none⟩)), (3, .slice p2 ln1 k2), (7, .slice p1 l.Cells.length k1), (8, .int .i64 (l.Cells.length : Int)), (9, .int .i64 i1)] ∧ SH w w' [Ch.own S1 (x1 : List ByteArray) [.slice p2 ln1 k2], Ch.box bb1 [.slice p1 l.Cells.length k1] 43]) n ⟨_, _, _, _, _, _, hF, rfl, h⟩ ?_
 rintro m1 e1 w2 ⟨S1, p2, ln1, k2, x1, i1, hF, rfl, h⟩
 obtain rfl := (h.sl 0 rfl).2
 rcases m1 with _ | m1
 ·rw [qbI] at hF
  cases hF
 rw [qbI] at hF
 refine zSR (zp1 rfl (zNS ?_))
 refine qr rfl hF ?_ ?_ <;> intro hF
 ·refine zKSBSR ?_
  obtain ⟨y1, hy1, hF⟩ := qd hF
  have he1 := qg hy1
  obtain ⟨b1, o_1, q1, cs2, hp1, hq1, -, hr1, hc2⟩ := s1.at hy1
  obtain ⟨p3, k3, p4, k4, p5, k5, rfl, s2, s3, s4⟩ := qai hr1
  refine zxe hp1 hq1 he1 rfl (zc 0 (hc2.below h.below) rfl (qah qc h rfl rfl rfl ?_))
  intro w3 bb2 h
  refine zs 0 h rfl ?_
  intro w4 h
  replace h : SH _ _ [Ch.box bb2 [.string y1.Name, .int .i64 y1.Kind, .slice p3 y1.Pins.length k3, .slice p4 y1.Arcs.length k4, .slice p5 y1.Truth.length k5, .int .i64 y1.Leak, .int .i64 y1.Energy] 183, Ch.own S1 (x1 : List ByteArray) [.slice p2 x1.length k2], Ch.box bb1 [.slice p1 l.Cells.length k1] 43] := h
  refine zNSSR (zl 0 0 h rfl ?_)
  obtain ⟨r1, hr2, hF⟩ := qd hF
  refine qn r1 h call204 (ql4 (qh5 y1 (h.oldS s2) (h.oldS s3) (h.oldS s4)) hr2) rfl rfl rfl rfl ?_
  intro w5 h
  refine zp1 rfl (qb ?_)
  refine qr rfl hF ?_ ?_ <;> intro hF
  ·refine zSR (zp1 rfl (qb ?_))
   obtain rfl := qh hF; replace hF := hK1
   exact qw qc h hF ⟨rfl, trivial⟩
  refine qdH (qy (zp2 rfl (zl 0 0 h rfl (qaB qc [.tmp 18] _ ([y1.Name] : List ByteArray) h rfl rfl rfl rfl rfl rfl rfl rfl rfl ⟨rfl, trivial⟩ rfl ?_))))
  intro w6 p6 S2 h
  obtain ⟨x2, hx1, hF⟩ := qd hF
  obtain ⟨g1, hx1⟩ := qa8 hx1
  refine qee qc 2 h rfl (h.sl 0 rfl).1 (h.sl 0 rfl).2 rfl rfl rfl rfl rfl rfl rfl rfl rfl g1 hx1 rfl ?_
  intro w7 p7 k6 S3 h
  refine zp1 rfl (zNER (zp2 rfl (qb ?_)))
  replace h := h.pick [2, 3] rfl
  exact qA m1 [(1, _), (3, _), (7, _), (8, _), (9, _)] (Nat.lt_succ_self m1) ⟨rfl, rfl, rfl, rfl, rfl, trivial⟩ ⟨_, _, _, _, _, _, hF, rfl, h⟩
 refine qH rfl ?_
 obtain rfl := qh hF; replace hF := hK1
 refine zSR (zp1 rfl (zl 1 0 h rfl (zp3 rfl ?_)))
 by_cases hc4 : (decide ((l.Cells.length : Int) ≤ 8)) = true
 ·replace hF := bifT hc4 hF
  refine qD hc4 (t := 26) rfl (qa rfl (zp1 rfl (qa rfl ?_)))
  obtain ⟨r2, hr3, hF⟩ := qd hF
  refine qn r2 h call205 (qeX (h.own 0 rfl) hr3) rfl rfl rfl rfl ?_
  intro w8 h
  exact zp2 rfl (qb (qw qc h hF ⟨rfl, trivial⟩))
 replace hc4 := zb hc4
 replace hF := bifF hc4 hF
 exact qE hc4 (t := 26) rfl (zn2 rfl (zp2 rfl (qb (qw qc h hF ⟨rfl, trivial⟩))))

def qaJ (d : ql) : Nat → (List ByteArray) → Int → Option ((List ByteArray) × Int)
 | 0, _, _ => none
 | n + 1, x3, i2 =>
  bif decide (i2 < (d.Ports.length : Int)) then
   (idx d.Ports i2).bind fun y2 =>
   (appS x3 ([y2.Name] : List ByteArray)).bind fun x4 =>
   qaJ d n x4 (W64 (i2 + 1))
  else
   some (x3, i2)

def qaI (d : ql) : Nat → (List ByteArray) → Int → Option ((List ByteArray) × Int)
 | 0, _, _ => none
 | n + 1, x1, i1 =>
  bif decide (i1 < (d.Instances.length : Int)) then
   (idx d.Instances i1).bind fun y1 =>
   (appS x1 ([y1.Name] : List ByteArray)).bind fun x2 =>
   qaI d n x2 (W64 (i1 + 1))
  else
   some (x1, i1)

def qdv (n : Nat) (d : ql) : Option Bool :=
 (qaI d n ([] : List ByteArray) 0).bind fun o => match o with
 | (x1, _) =>
  (qaJ d n ([] : List ByteArray) 0).bind fun o => match o with
  | (x3, _) =>
   bif decide ((x1.length : Int) ≤ 14) then
    bif decide ((d.Nets.length : Int) ≤ 30) then
     bif decide ((x3.length : Int) ≤ 8) then
      (qdq n x1).bind fun r1 =>
      bif r1 then
       (qdq n d.Nets).bind fun r2 =>
       bif r2 then
        (qdq n x3).bind fun r3 =>
        some r3
       else
        some false
      else
       some false
     else
      some false
    else
     some false
   else
    some false

theorem qiP {n : Nat} {w : World} {d : ql} {cs1 : List Value} (ha1 : GoT.R w (old w) d cs1) {r : Bool} (hF : qdv n d = some r) : RetV Tryz.prog 180 [GoT.v ql cs1] w r := by
 obtain ⟨p1, k1, p2, k2, p3, k3, rfl, s1, s2, s3⟩ := qaS ha1
 refine qe Tryz.func180 rfl (m := 62) rfl rfl (fun h => ?_)
 rw [qdv] at hF
 refine zSR (qO h rfl rfl ?_)
 intro w1 bb1 h
 refine zp1 rfl (zNSR (zp2 rfl (zNSSR (zp1 rfl (zl 0 0 h rfl ?_)))))
 refine zp2 rfl (qb ?_)
 replace h := h.nil (α := ByteArray)
 obtain ⟨o1, hF, hK1⟩ := qd hF
 refine qv (qR [(1, _), (3, _), (4, _), (10, _), (11, _), (12, _)] ⟨rfl, rfl, rfl, rfl, rfl, rfl, trivial⟩ ?_)
 refine qI (fun m e w' => ∃ (S1 : Nat → Prop) (p4 : Option Addr) (ln1 : Nat) (k4 : Nat) (x1 : (List ByteArray)) (i1 : Int), qaI d m x1 i1 = some o1 ∧ e = [(1, .pointer (some ⟨bb1, 0, none⟩)), (3, .slice p4 ln1 k4), (4, .slice none 0 0), (10, .slice p1 d.Instances.length k1), (11, .int .i64 (d.Instances.length : Int)), (12, .int .i64 i1)] ∧ SH w w' [Ch.own S1 (x1 : List ByteArray) [.slice p4 ln1 k4], Ch.box bb1 [.slice p1 d.Instances.length k1, .slice p2 d.Nets.length k2, .slice p3 d.Ports.length k3] 47]) n ⟨_, _, _, _, _, _, hF, rfl, h⟩ ?_
 rintro m1 e1 w2 ⟨S1, p4, ln1, k4, x1, i1, hF, rfl, h⟩
 obtain rfl := (h.sl 0 rfl).2
 rcases m1 with _ | m1
 ·rw [qaI] at hF
  cases hF
 rw [qaI] at hF
 refine zSR (zp1 rfl (zNS ?_))
 refine qr rfl hF ?_ ?_ <;> intro hF
 ·refine zKSBSR ?_
  obtain ⟨y1, hy1, hF⟩ := qd hF
  have he1 := qg hy1
  obtain ⟨b1, o_1, q1, cs2, hp1, hq1, -, hr1, hc2⟩ := s1.at hy1
  obtain ⟨p5, k5, rfl, s4⟩ := qad hr1
  refine zxe hp1 hq1 he1 rfl (zc 0 (hc2.below h.below) rfl (qah qc h rfl rfl rfl ?_))
  intro w3 bb2 h
  refine zs 0 h rfl ?_
  intro w4 h
  replace h : SH _ _ [Ch.box bb2 [.string y1.Name, .int .i64 y1.Cell, .slice p5 y1.Nets.length k5] 185, Ch.own S1 (x1 : List ByteArray) [.slice p4 x1.length k4], Ch.box bb1 [.slice p1 d.Instances.length k1, .slice p2 d.Nets.length k2, .slice p3 d.Ports.length k3] 47] := h
  refine qb (qy (zp2 rfl (zl 0 0 h rfl (qaB qc [.tmp 18] _ ([y1.Name] : List ByteArray) h rfl rfl rfl rfl rfl rfl rfl rfl rfl ⟨rfl, trivial⟩ rfl ?_))))
  intro w5 p6 S2 h
  obtain ⟨x2, hx1, hF⟩ := qd hF
  obtain ⟨g1, hx1⟩ := qa8 hx1
  refine qee qc 2 h rfl (h.sl 0 rfl).1 (h.sl 0 rfl).2 rfl rfl rfl rfl rfl rfl rfl rfl rfl g1 hx1 rfl ?_
  intro w6 p7 k6 S3 h
  refine zp1 rfl (zNER (zp2 rfl (qb ?_)))
  replace h := h.pick [2, 3] rfl
  exact qA m1 [(1, _), (3, _), (4, _), (10, _), (11, _), (12, _)] (Nat.lt_succ_self m1) ⟨rfl, rfl, rfl, rfl, rfl, rfl, trivial⟩ ⟨_, _, _, _, _, _, hF, rfl, h⟩
 refine qH rfl ?_
 obtain rfl := qh hF; replace hF := hK1
 refine zSSR (zp1 rfl (zl 1 2 h rfl (zp2 rfl (qb ?_))))
 replace h := h.nil (α := ByteArray)
 obtain ⟨o2, hF, hK2⟩ := qd hF
 refine qv (qR [(1, _), (3, _), (4, _), (23, _), (24, _), (25, _)] ⟨rfl, rfl, rfl, rfl, rfl, rfl, trivial⟩ ?_)
 refine qI (fun m e w' => ∃ (S4 : Nat → Prop) (p8 : Option Addr) (ln2 : Nat) (k7 : Nat) (x3 : (List ByteArray)) (i2 : Int), qaJ d m x3 i2 = some o2 ∧ e = [(1, .pointer (some ⟨bb1, 0, none⟩)), (3, .slice p4 x1.length k4), (4, .slice p8 ln2 k7), (23, .slice p3 d.Ports.length k3), (24, .int .i64 (d.Ports.length : Int)), (25, .int .i64 i2)] ∧ SH w w' [Ch.own S4 (x3 : List ByteArray) [.slice p8 ln2 k7], Ch.own S1 (x1 : List ByteArray) [.slice p4 x1.length k4], Ch.box bb1 [.slice p1 d.Instances.length k1, .slice p2 d.Nets.length k2, .slice p3 d.Ports.length k3] 47]) n ⟨_, _, _, _, _, _, hF, rfl, h⟩ ?_
 rintro m2 e2 w7 ⟨S4, p8, ln2, k7, x3, i2, hF, rfl, h⟩
 obtain rfl := (h.sl 0 rfl).2
 rcases m2 with _ | m2
 ·rw [qaJ] at hF
  cases hF
 rw [qaJ] at hF
 refine zSR (zp1 rfl (zNS ?_))
 refine qr rfl hF ?_ ?_ <;> intro hF
 ·refine zKSBSR ?_
  obtain ⟨y2, hy2, hF⟩ := qd hF
  have he2 := qg hy2
  obtain ⟨b2, o_2, q2, cs3, hp2, hq2, -, hr2, hc4⟩ := s3.at hy2
  obtain rfl := qaW hr2
  refine zxe hp2 hq2 he2 rfl (zc 0 (hc4.below h.below) rfl (qah qc h rfl rfl rfl ?_))
  intro w8 bb3 h
  refine zs 0 h rfl ?_
  intro w9 h
  replace h : SH _ _ [Ch.box bb3 [.string y2.Name, .int .i64 y2.Dir, .int .i64 y2.Net] 187, Ch.own S4 (x3 : List ByteArray) [.slice p8 x3.length k7], Ch.own S1 (x1 : List ByteArray) [.slice p4 x1.length k4], Ch.box bb1 [.slice p1 d.Instances.length k1, .slice p2 d.Nets.length k2, .slice p3 d.Ports.length k3] 47] := h
  refine qb (qy (zp2 rfl (zl 0 0 h rfl (qaB qc [.tmp 31] _ ([y2.Name] : List ByteArray) h rfl rfl rfl rfl rfl rfl rfl rfl rfl ⟨rfl, trivial⟩ rfl ?_))))
  intro w10 p9 S5 h
  obtain ⟨x4, hx2, hF⟩ := qd hF
  obtain ⟨g2, hx2⟩ := qa8 hx2
  refine qee qc 2 h rfl (h.sl 0 rfl).1 (h.sl 0 rfl).2 rfl rfl rfl rfl rfl rfl rfl rfl rfl g2 hx2 rfl ?_
  intro w11 p10 k8 S6 h
  refine zp1 rfl (zNER (zp2 rfl (qb ?_)))
  replace h := h.pick [2, 3, 4] rfl
  exact qA m2 [(1, _), (3, _), (4, _), (23, _), (24, _), (25, _)] (Nat.lt_succ_self m2) ⟨rfl, rfl, rfl, rfl, rfl, rfl, trivial⟩ ⟨_, _, _, _, _, _, hF, rfl, h⟩
 refine qH rfl ?_
 obtain rfl := qh hF; replace hF := hK2
 refine zSR (zp4 rfl ?_)
 by_cases hc5 : (decide ((x1.length : Int) ≤ 14)) = true
 ·replace hF := bifT hc5 hF
  refine qD hc5 (t := 38) rfl (qa rfl (zp1 rfl (qa rfl (zl 2 1 h rfl (qa rfl (zp1 rfl (qa rfl (zp3 rfl ?_))))))))
  by_cases hc6 : (decide ((d.Nets.length : Int) ≤ 30)) = true
  ·replace hF := bifT hc6 hF
   refine qD hc6 (t := 44) rfl (qa rfl (zp1 rfl (qa rfl (zp1 rfl (qa rfl (zp3 rfl ?_))))))
   by_cases hc7 : (decide ((x3.length : Int) ≤ 8)) = true
   ·replace hF := bifT hc7 hF
    refine qD hc7 (t := 49) rfl (qa rfl (zp1 rfl (qa rfl ?_)))
    obtain ⟨r1, hr3, hF⟩ := qd hF
    refine qn r1 h call205 (qeX (h.own 1 rfl) hr3) rfl rfl rfl rfl ?_
    intro w12 h
    refine zp2 rfl ?_
    by_cases hc8 : r1 = true
    ·replace hF := bifT hc8 hF
     refine qD hc8 (t := 53) rfl (qa rfl (zp1 rfl (qa rfl (zl 2 1 h rfl (qa rfl ?_)))))
     obtain ⟨r2, hr4, hF⟩ := qd hF
     refine qn r2 h call205 (qeX ⟨_, _, rfl, (h.oldS s2)⟩ hr4) rfl rfl rfl rfl ?_
     intro w13 h
     refine zp2 rfl ?_
     by_cases hc9 : r2 = true
     ·replace hF := bifT hc9 hF
      refine qD hc9 (t := 58) rfl (qa rfl (zp1 rfl (qa rfl ?_)))
      obtain ⟨r3, hr5, hF⟩ := qd hF
      refine qn r3 h call205 (qeX (h.own 0 rfl) hr5) rfl rfl rfl rfl ?_
      intro w14 h
      exact zp2 rfl (qb (qw qc h hF ⟨rfl, trivial⟩))
     replace hc9 := zb hc9
     replace hF := bifF hc9 hF
     exact qE hc9 (t := 58) rfl (zn2 rfl (zp2 rfl (qb (qw qc h hF ⟨rfl, trivial⟩))))
    replace hc8 := zb hc8
    replace hF := bifF hc8 hF
    exact qE hc8 (t := 53) rfl (zn3 rfl (zp2 rfl (zn2 rfl (zp2 rfl (qb (qw qc h hF ⟨rfl, trivial⟩))))))
   replace hc7 := zb hc7
   replace hF := bifF hc7 hF
   refine qE hc7 (t := 49) rfl (zn2 rfl (zp2 rfl (zn3 rfl (zp2 rfl (zn2 rfl ?_)))))
   exact zp2 rfl (qb (qw qc h hF ⟨rfl, trivial⟩))
  replace hc6 := zb hc6
  replace hF := bifF hc6 hF
  refine qE hc6 (t := 44) rfl (zn3 rfl (zp2 rfl (zn2 rfl (zp2 rfl (zn2 rfl ?_)))))
  exact zn1 rfl (zp2 rfl (zn2 rfl (zp2 rfl (qb (qw qc h hF ⟨rfl, trivial⟩)))))
 replace hc5 := zb hc5
 replace hF := bifF hc5 hF
 refine qE hc5 (t := 38) rfl (zn4 rfl (zp2 rfl (zn3 rfl (zp2 rfl ?_))))
 refine zn2 rfl (zp2 rfl (zn3 rfl (zp2 rfl (zn2 rfl (zp1 rfl ?_)))))
 exact zp1 rfl (qb (qw qc h hF ⟨rfl, trivial⟩))

def qek (_ : Nat) (list : (List qB)) : Option Int :=
 some (list.length : Int)

theorem qiy {n : Nat} {w : World} {list : (List qB)} {cs1 : List Value} (ha1 : GoT.R w (old w) list cs1) {r : Int} (hF : qek n list = some r) : RetV Tryz.prog 206 [GoT.v (List qB) cs1] w r := by
 obtain ⟨p1, k1, rfl, s1⟩ := ha1
 refine qe Tryz.func206 rfl (m := 5) rfl rfl (fun h => ?_)
 rw [qek] at hF
 exact zSR (zp1 rfl (zNSR (zp3 rfl (qb (qap qc h hF ⟨rfl, trivial⟩)))))

def qfk (_ : Nat) (list : (List ByteArray)) : Option Int :=
 some (list.length : Int)

theorem qjb {n : Nat} {w : World} {list : (List ByteArray)} {cs1 : List Value} (ha1 : GoT.R w (old w) list cs1) {r : Int} (hF : qfk n list = some r) : RetV Tryz.prog 208 [GoT.v (List ByteArray) cs1] w r := by
 obtain ⟨p1, k1, rfl, s1⟩ := ha1
 refine qe Tryz.func208 rfl (m := 5) rfl rfl (fun h => ?_)
 rw [qfk] at hF
 exact zSR (zp1 rfl (zNSR (zp3 rfl (qb (qap qc h hF ⟨rfl, trivial⟩)))))

def qcU (n : Nat) (d : ql) (net : Int) : Option Bool :=
 (qfk n d.Nets).bind fun r1 =>
 (qaN n net 0 (W64 (r1 - 1))).bind fun r2 =>
 some r2

theorem qfG {n : Nat} {w : World} {d : ql} {net : Int} {cs1 : List Value} (ha1 : GoT.R w (old w) d cs1) {r : Bool} (hF : qcU n d net = some r) : RetV Tryz.prog 182 [GoT.v ql cs1, .int .i64 net] w r := by
 obtain ⟨p1, k1, p2, k2, p3, k3, rfl, s1, s2, s3⟩ := qaS ha1
 refine qe Tryz.func182 rfl (m := 11) rfl rfl (fun h => ?_)
 rw [qcU] at hF
 refine zSR (qO h rfl rfl ?_)
 intro w1 bb1 h
 refine zp1 rfl (zNSR (zp2 rfl (zl 0 1 h rfl ?_)))
 obtain ⟨r1, hr1, hF⟩ := qd hF
 refine qT r1 h call208 (qjb ⟨_, _, rfl, (h.oldS s2)⟩ hr1) rfl rfl rfl rfl ?_
 intro w2 h
 refine zp1 rfl ?_
 obtain ⟨r2, hr2, hF⟩ := qd hF
 refine qn r2 h call86 (qau hr2) rfl rfl rfl rfl ?_
 intro w3 h
 exact zp1 rfl (qb (qw qc h hF ⟨rfl, trivial⟩))

def qcr (n : Nat) (net : Int) (v0 : ql) : Option Bool :=
 (qcU n v0 net).bind fun r1 =>
 some (!r1)

theorem qh4 {n : Nat} {w : World} {net : Int} {v0 : ql} {p1 : Option Addr} (ha1 : GoT.R w (old w) (some v0) [.pointer p1]) {r : Bool} (hF : qcr n net v0 = some r) : RetV Tryz.prog 207 [.int .i64 net, .pointer p1] w r := by
 obtain ⟨b1, o_1, cs1, rfl, -, hr1, hc1⟩ := PtR.get ha1 rfl
 obtain ⟨p2, k1, p3, k2, p4, k3, rfl, s1, s2, s3⟩ := qaS hr1
 refine qe Tryz.func207 rfl (m := 8) rfl rfl (fun h => ?_)
 rw [qcr] at hF
 refine zSR (zp1 rfl (zNSR (zc 0 (hc1.below h.below) rfl (zp1 rfl ?_))))
 obtain ⟨r1, hr2, hF⟩ := qd hF
 refine qn r1 h call182 (qfG (qco v0 (h.oldS s1) (h.oldS s2) (h.oldS s3)) hr2) rfl rfl rfl rfl ?_
 intro w1 h
 exact zp2 rfl (qb (qw qc h hF ⟨rfl, trivial⟩))

def qJ (s : (List Int)) (f_0 : ql) : Nat → Int → Option (Flow Int Int)
 | 0, _ => none
 | n + 1, i1 =>
  bif decide (i1 < (s.length : Int)) then
   (idx s i1).bind fun y1 =>
   (qcr n y1 f_0).bind fun r1 =>
   bif r1 then
    some (.ret i1)
   else
    qJ s f_0 n (W64 (i1 + 1))
  else
   some (.nxt i1)

def qay (n : Nat) (s : (List Int)) (f_0 : ql) : Option Int :=
 (qJ s f_0 n 0).bind fun o => match o with
 | .ret r => some r
 | .nxt _ =>
  some (-1)

theorem qeh {n : Nat} {w : World} {s : (List Int)} {f_0 : ql} {cs1 : List Value} (ha1 : GoT.R w (old w) s cs1) {p2 : Option Addr} (ha2 : GoT.R w (old w) (some f_0) [.pointer p2]) {r : Int} (hF : qay n s f_0 = some r) : RetV Tryz.prog 190 [GoT.v (List Int) cs1, .func (.func 207) #[] #[.pointer p2]] w r := by
 obtain ⟨p1, k1, rfl, s1⟩ := ha1
 obtain ⟨b1, o_1, cs2, rfl, -, hr1, hc1⟩ := PtR.get ha2 rfl
 obtain ⟨p3, k2, p4, k3, p5, k4, rfl, s2, s3, s4⟩ := qaS hr1
 refine qe Tryz.func190 rfl (m := 19) rfl rfl (fun h => ?_)
 rw [qay] at hF
 refine zSR (zp1 rfl (zNSSR (zp3 rfl (qb ?_))))
 obtain ⟨o1, hF, hK1⟩ := qd hF
 refine qv (qR [(0, _), (1, _), (7, _), (8, _)] ⟨rfl, rfl, rfl, rfl, trivial⟩ ?_)
 refine qI (fun m e w' => ∃ (i1 : Int), qJ s f_0 m i1 = some o1 ∧ e = [(0, .slice p1 s.length k1), (1, .func (.func 207) #[] #[.pointer (some ⟨b1, o_1, none⟩)]), (7, .int .i64 (s.length : Int)), (8, .int .i64 i1)] ∧ SH w w' []) n ⟨_, hF, rfl, h⟩ ?_
 rintro m1 e1 w1 ⟨i1, hF, rfl, h⟩
 rcases m1 with _ | m1
 ·rw [qJ] at hF
  cases hF
 rw [qJ] at hF
 refine zSR (zp1 rfl (zNS ?_))
 refine qr rfl hF ?_ ?_ <;> intro hF
 ·refine zKSBSR (zp2 rfl (zNSR (zp2 rfl ?_)))
  refine zp1 rfl ?_
  obtain ⟨y1, hy1, hF⟩ := qd hF
  have he1 := qg hy1
  obtain ⟨b2, o_2, q1, cs3, hp1, hq1, -, hr2, hc3⟩ := s1.at hy1
  obtain rfl := hr2
  refine zxe hp1 hq1 he1 rfl (zc 0 (hc3.below h.below) rfl ?_)
  obtain ⟨r1, hr3, hF⟩ := qd hF
  refine qn r1 h call207 (qh4 (h.old ha2) hr3) rfl rfl rfl rfl ?_
  intro w2 h
  refine qb ?_
  refine qr rfl hF ?_ ?_ <;> intro hF
  ·refine zSR (zp2 rfl (qb ?_))
   obtain rfl := qh hF; replace hF := hK1
   exact qap qc h hF ⟨rfl, trivial⟩
  exact zKER (zp2 rfl (qb (qA m1 [(0, _), (1, _), (7, _), (8, _)] (Nat.lt_succ_self m1) ⟨rfl, rfl, rfl, rfl, trivial⟩ ⟨_, hF, rfl, h⟩)))
 refine qH rfl ?_
 obtain rfl := qh hF; replace hF := hK1
 exact zSR (zp1 rfl (qb (qap qc h hF ⟨rfl, trivial⟩)))

def qan (n : Nat) (s : (List Int)) (f_0 : ql) : Option Bool :=
 (qay n s f_0).bind fun r1 =>
 some (decide (r1 ≥ 0))

theorem qdO {n : Nat} {w : World} {s : (List Int)} {f_0 : ql} {cs1 : List Value} (ha1 : GoT.R w (old w) s cs1) {p2 : Option Addr} (ha2 : GoT.R w (old w) (some f_0) [.pointer p2]) {r : Bool} (hF : qan n s f_0 = some r) : RetV Tryz.prog 155 [GoT.v (List Int) cs1, .func (.func 207) #[] #[.pointer p2]] w r := by
 obtain ⟨p1, k1, rfl, s1⟩ := ha1
 obtain ⟨b1, o_1, cs2, rfl, -, hr1, hc1⟩ := PtR.get ha2 rfl
 obtain ⟨p3, k2, p4, k3, p5, k4, rfl, s2, s3, s4⟩ := qaS hr1
 refine qe Tryz.func155 rfl (m := 9) rfl rfl (fun h => ?_)
 rw [qan] at hF
 refine zSR (zp1 rfl (zNSR (zp2 rfl ?_)))
 obtain ⟨r1, hr2, hF⟩ := qd hF
 refine qT r1 h call190 (qeh ⟨_, _, rfl, (h.oldS s1)⟩ (h.old ha2) hr2) rfl rfl rfl rfl ?_
 intro w1 h
 exact zp2 rfl (qb (qw qc h hF ⟨rfl, trivial⟩))

def qcO (n : Nat) (d : ql) (l : qz) (x : qk) : Option Bool :=
 (qek n l.Cells).bind fun r1 =>
 (qaN n x.Cell 0 (W64 (r1 - 1))).bind fun r2 =>
 bif r2 then
  (idx l.Cells x.Cell).bind fun y1 =>
  bif ((x.Nets.length : Int) == (y1.Pins.length : Int)) then
   (qan n x.Nets d).bind fun r3 =>
   some (!r3)
  else
   some false
 else
  some false

theorem qim {n : Nat} {w : World} {d : ql} {l : qz} {x : qk} {cs1 : List Value} (ha1 : GoT.R w (old w) d cs1) {cs2 : List Value} (ha2 : GoT.R w (old w) l cs2) {cs3 : List Value} (ha3 : GoT.R w (old w) x cs3) {r : Bool} (hF : qcO n d l x = some r) : RetV Tryz.prog 181 [GoT.v ql cs1, GoT.v qz cs2, GoT.v qk cs3] w r := by
 obtain ⟨p1, k1, p2, k2, p3, k3, rfl, s1, s2, s3⟩ := qaS ha1
 obtain ⟨p4, k4, rfl, s4⟩ := qb3 ha2
 obtain ⟨p5, k5, rfl, s5⟩ := qad ha3
 refine qe Tryz.func181 rfl (m := 35) rfl rfl (fun h => ?_)
 rw [qcO] at hF
 refine zSR (qO h rfl rfl ?_)
 intro w1 bb1 h
 refine qO h rfl rfl ?_
 intro w2 bb2 h
 refine qO h rfl rfl ?_
 intro w3 bb3 h
 refine zp1 rfl (zNS ?_)
 refine qc7 rfl (by kernel_rfl) ?_
 refine zd1 rfl ?_
 refine zdl 0 1 h rfl ?_
 refine zd1 rfl ?_
 refine zdl 1 0 h rfl ?_
 obtain ⟨r1, hr1, hF⟩ := qd hF
 refine qcI r1 (vsI _) call206 (fun _ hb => qiy ⟨_, _, rfl, ((h.ext hb).oldS s4)⟩ hr1) rfl rfl rfl rfl ?_
 refine zd1 rfl ?_
 obtain ⟨r2, hr2, hF⟩ := qd hF
 refine qcI r2 (vsB _) call86 (fun _ hb => qau  hr2) rfl rfl rfl rfl ?_
 refine zd1 rfl ?_
 by_cases hc1 : r2 = true
 ·replace hF := bifT hc1 hF
  refine qdg hc1 (t := 14) rfl (qi rfl (zd1 rfl (qi rfl ?_)))
  refine zdl 0 2 h rfl ?_
  refine qi rfl (zd1 rfl (qi rfl (zd1 rfl (qi rfl ?_))))
  refine zdl 1 0 h rfl ?_
  refine qi rfl (zd1 rfl (qi rfl ?_))
  refine zdl 0 1 h rfl ?_
  refine qi rfl ?_
  obtain ⟨y1, hy1, hF⟩ := qd hF
  have he1 := qg hy1
  obtain ⟨b1, o_1, q1, cs4, hp1, hq1, -, hr3, hc2⟩ := s4.at hy1
  obtain ⟨p6, k6, p7, k7, p8, k8, rfl, s6, s7, s8⟩ := qai hr3
  refine zdxe hp1 hq1 he1 rfl ?_
  refine qi rfl (zd1 rfl (qi rfl ?_))
  refine zdc 2 (hc2.below h.below) rfl ?_
  refine qi rfl (zd1 rfl (qi rfl (zd3 rfl ?_)))
  by_cases hc3 : ((x.Nets.length : Int) == (y1.Pins.length : Int)) = true
  ·replace hF := bifT hc3 hF
   refine qdg hc3 (t := 28) rfl (qi rfl (zd1 rfl (qi rfl ?_)))
   refine zdl 0 2 h rfl ?_
   refine qi rfl (zd1 rfl (qi rfl ?_))
   obtain ⟨r3, hr4, hF⟩ := qd hF
   refine qcI r3 (vsB _) call155 (fun _ hb => qdO ⟨_, _, rfl, ((h.ext hb).oldS s5)⟩ (qie (x := d) 2 (h.ext hb) rfl ((h.ext hb).old ha1)) hr4) rfl rfl rfl rfl ?_
   refine qi rfl (zd3 rfl ?_)
   refine qbm (fun w4 hb => ?_)
   replace h := h.ext hb
   clear hb
   exact qw qc h hF ⟨rfl, trivial⟩
  replace hc3 := zb hc3
  replace hF := bifF hc3 hF
  refine qdm hc3 (t := 28) rfl (qj rfl rfl rfl (qj rfl rfl rfl (qj rfl rfl rfl (qj rfl rfl rfl (qj rfl rfl rfl (zd2 rfl ?_))))))
  refine qbm (fun w5 hb => ?_)
  replace h := h.ext hb
  clear hb
  exact qw qc h hF ⟨rfl, trivial⟩
 replace hc1 := zb hc1
 replace hF := bifF hc1 hF
 refine qdm hc1 (t := 14) rfl (qj rfl rfl rfl (qj rfl rfl rfl (qj rfl rfl rfl (qj rfl rfl rfl (qj rfl rfl rfl (qj rfl rfl rfl (qj rfl rfl rfl (qj rfl rfl rfl (qj rfl rfl rfl (qj rfl rfl rfl (qj rfl rfl rfl ?_)))))))))))
 refine qj rfl rfl rfl (zd2 rfl (qj rfl rfl rfl (qj rfl rfl rfl (qj rfl rfl rfl (qj rfl rfl rfl (qj rfl rfl rfl (zd2 rfl ?_)))))))
 refine qbm (fun w6 hb => ?_)
 replace h := h.ext hb
 clear hb
 exact qw qc h hF ⟨rfl, trivial⟩

def qgn (_ : Nat) (a_n : Int) : Option Bool :=
 some (a_n != 1)

theorem qkm {n : Nat} {w : World} {a_n : Int}  {r : Bool} (hF : qgn n a_n = some r) : RetV Tryz.prog 184 [.int .i64 a_n] w r := by
 refine qe Tryz.func184 rfl (m := 5) rfl rfl (fun h => ?_)
 rw [qgn] at hF
 exact zSR (zp1 rfl (zNSR (zp3 rfl (qb (qw qc h hF ⟨rfl, trivial⟩)))))

def qU (s : (List Int)) : Nat → Int → Option (Flow Int Int)
 | 0, _ => none
 | n + 1, i1 =>
  bif decide (i1 < (s.length : Int)) then
   (idx s i1).bind fun y1 =>
   (qgn n y1).bind fun r1 =>
   bif r1 then
    some (.ret i1)
   else
    qU s n (W64 (i1 + 1))
  else
   some (.nxt i1)

def qbl (n : Nat) (s : (List Int)) : Option Int :=
 (qU s n 0).bind fun o => match o with
 | .ret r => some r
 | .nxt _ =>
  some (-1)

theorem qfE {n : Nat} {w : World} {s : (List Int)} {cs1 : List Value} (ha1 : GoT.R w (old w) s cs1) {r : Int} (hF : qbl n s = some r) : RetV Tryz.prog 209 [GoT.v (List Int) cs1, .func (.func 184) #[] #[]] w r := by
 obtain ⟨p1, k1, rfl, s1⟩ := ha1
 refine qe Tryz.func209 rfl (m := 19) rfl rfl (fun h => ?_)
 rw [qbl] at hF
 refine zSR (zp1 rfl (zNSSR (zp3 rfl (qb ?_))))
 obtain ⟨o1, hF, hK1⟩ := qd hF
 refine qv (qR [(0, _), (1, _), (7, _), (8, _)] ⟨rfl, rfl, rfl, rfl, trivial⟩ ?_)
 refine qI (fun m e w' => ∃ (i1 : Int), qU s m i1 = some o1 ∧ e = [(0, .slice p1 s.length k1), (1, .func (.func 184) #[] #[]), (7, .int .i64 (s.length : Int)), (8, .int .i64 i1)] ∧ SH w w' []) n ⟨_, hF, rfl, h⟩ ?_
 rintro m1 e1 w1 ⟨i1, hF, rfl, h⟩
 rcases m1 with _ | m1
 ·rw [qU] at hF
  cases hF
 rw [qU] at hF
 refine zSR (zp1 rfl (zNS ?_))
 refine qr rfl hF ?_ ?_ <;> intro hF
 ·refine zKSBSR (zp2 rfl (zNSR (zp2 rfl ?_)))
  refine zp1 rfl ?_
  obtain ⟨y1, hy1, hF⟩ := qd hF
  have he1 := qg hy1
  obtain ⟨b1, o_1, q1, cs2, hp1, hq1, -, hr1, hc2⟩ := s1.at hy1
  obtain rfl := hr1
  refine zxe hp1 hq1 he1 rfl (zc 0 (hc2.below h.below) rfl ?_)
  obtain ⟨r1, hr2, hF⟩ := qd hF
  refine qn r1 h call184 (qkm hr2) rfl rfl rfl rfl ?_
  intro w2 h
  refine qb ?_
  refine qr rfl hF ?_ ?_ <;> intro hF
  ·refine zSR (zp2 rfl (qb ?_))
   obtain rfl := qh hF; replace hF := hK1
   exact qap qc h hF ⟨rfl, trivial⟩
  exact zKER (zp2 rfl (qb (qA m1 [(0, _), (1, _), (7, _), (8, _)] (Nat.lt_succ_self m1) ⟨rfl, rfl, rfl, rfl, trivial⟩ ⟨_, hF, rfl, h⟩)))
 refine qH rfl ?_
 obtain rfl := qh hF; replace hF := hK1
 exact zSR (zp1 rfl (qb (qap qc h hF ⟨rfl, trivial⟩)))

def qa5 (n : Nat) (s : (List Int)) : Option Bool :=
 (qbl n s).bind fun r1 =>
 some (decide (r1 ≥ 0))

theorem qfj {n : Nat} {w : World} {s : (List Int)} {cs1 : List Value} (ha1 : GoT.R w (old w) s cs1) {r : Bool} (hF : qa5 n s = some r) : RetV Tryz.prog 183 [GoT.v (List Int) cs1, .func (.func 184) #[] #[]] w r := by
 obtain ⟨p1, k1, rfl, s1⟩ := ha1
 refine qe Tryz.func183 rfl (m := 9) rfl rfl (fun h => ?_)
 rw [qa5] at hF
 refine zSR (zp1 rfl (zNSR (zp2 rfl ?_)))
 obtain ⟨r1, hr1, hF⟩ := qd hF
 refine qT r1 h call209 (qfE ⟨_, _, rfl, (h.oldS s1)⟩ hr1) rfl rfl rfl rfl ?_
 intro w1 h
 exact zp2 rfl (qb (qw qc h hF ⟨rfl, trivial⟩))

def qbA (a_1 : ql) : Nat → (List Int) → Int → Option (Flow Bool ((List Int) × Int))
 | 0, _, _ => none
 | n + 1, x3, i2 =>
  bif decide (i2 < (a_1.Ports.length : Int)) then
   (idx a_1.Ports i2).bind fun y5 =>
   (
    bif (y5.Dir != 1) then
     bif (y5.Dir != 2) then
      some true
     else
      (qcU n a_1 y5.Net).bind fun r2 =>
      some (!r2)
    else
     (qcU n a_1 y5.Net).bind fun r3 =>
     some (!r3)).bind fun b7 =>
   bif b7 then
    some (.ret false)
   else
    bif (y5.Dir == 1) then
     (idx x3 y5.Net).bind fun y6 =>
     (idx x3 y5.Net).bind fun _ =>
     qbA a_1 n (setS x3 y5.Net (W64 (y6 + 1))) (W64 (i2 + 1))
    else
     qbA a_1 n x3 (W64 (i2 + 1))
  else
   some (.nxt (x3, i2))

def qb8 (a_0 : qz) (a_1 : ql) : Nat → (List Int) → Int → Option (Flow Bool ((List Int) × Int))
 | 0, _, _ => none
 | n + 1, x2, i1 =>
  bif decide (i1 < (a_1.Instances.length : Int)) then
   (idx a_1.Instances i1).bind fun y1 =>
   (qcO n a_1 a_0 y1).bind fun r1 =>
   bif (!r1) then
    some (.ret false)
   else
    (idx y1.Nets (W64 ((y1.Nets.length : Int) - 1))).bind fun y2 =>
    (idx x2 y2).bind fun y3 =>
    (idx x2 y2).bind fun _ =>
    qb8 a_0 a_1 n (setS x2 y2 (W64 (y3 + 1))) (W64 (i1 + 1))
  else
   some (.nxt (x2, i1))

def qf7 (n : Nat) (a_0 : qz) (a_1 : ql) : Option Bool :=
 (
  (qfM n a_0).bind fun r5 =>
  bif (!r5) then
   some true
  else
   (qdv n a_1).bind fun r6 =>
   some (!r6)).bind fun b1 =>
 bif b1 then
  some false
 else
  (mkS (a_1.Nets.length : Int) (0 : Int)).bind fun x1 =>
  (qb8 a_0 a_1 n x1 0).bind fun o => match o with
  | .ret r => some r
  | .nxt (x2, _) =>
   (qbA a_1 n x2 0).bind fun o => match o with
   | .ret r => some r
   | .nxt (x3, _) =>
    (qa5 n x3).bind fun r4 =>
    some (!r4)

theorem qkV {n : Nat} {w : World} {a_0 : qz} {a_1 : ql} {cs1 : List Value} (ha1 : GoT.R w (old w) a_0 cs1) {cs2 : List Value} (ha2 : GoT.R w (old w) a_1 cs2) {r : Bool} (hF : qf7 n a_0 a_1 = some r) : RetV Tryz.prog 147 [GoT.v qz cs1, GoT.v ql cs2] w r := by
 obtain ⟨p1, k1, rfl, s1⟩ := qb3 ha1
 obtain ⟨p2, k2, p3, k3, p4, k4, rfl, s2, s3, s4⟩ := qaS ha2
 refine qe Tryz.func147 rfl (m := 84) rfl rfl (fun h => ?_)
 rw [qf7] at hF
 refine zSR (qO h rfl rfl ?_)
 intro w1 bb1 h
 refine qO h rfl rfl ?_
 intro w2 bb2 h
 refine zp1 rfl (zNSS ?_)
 obtain ⟨KF2, hKF2, o4, hF, hK4⟩ := bindE hF
 refine qen (fun e w' => ∃ (b1 : Bool), KF2 b1 = some r ∧ e = [(2, .pointer (some ⟨bb1, 0, none⟩)), (3, .pointer (some ⟨bb2, 0, none⟩)), (17, .bool b1)] ∧ SH w w' [Ch.box bb2 [.slice p2 a_1.Instances.length k2, .slice p3 a_1.Nets.length k3, .slice p4 a_1.Ports.length k4] 47, Ch.box bb1 [.slice p1 a_0.Cells.length k1] 43]) ?_ ?_
 ·refine qy (zl 1 0 h rfl ?_)
  obtain ⟨r5, hr12, hF⟩ := qd hF
  refine qn r5 h call179 (qky (h.old ha1) hr12) rfl rfl rfl rfl ?_
  intro w17 h
  refine zp2 rfl ?_
  by_cases hc16 : (!r5) = true
  ·replace hF := bifT hc16 hF
   refine qD hc16 (t := 13) rfl (zn3 rfl (zp1 rfl (qb ?_)))
   obtain rfl := qh hF
   exact qx [(2, _), (3, _), (17, _)] ⟨rfl, rfl, rfl, trivial⟩ ⟨_, hK4, rfl, h⟩
  replace hc16 := zb hc16
  replace hF := bifF hc16 hF
  refine qE hc16 (t := 13) rfl (qa rfl (zl 0 0 h rfl (qa rfl ?_)))
  obtain ⟨r6, hr13, hF⟩ := qd hF
  refine qn r6 h call180 (qiP (h.old ha2) hr13) rfl rfl rfl rfl ?_
  intro w18 h
  refine qa rfl (zp2 rfl (qb ?_))
  obtain rfl := qh hF
  exact qx [(2, _), (3, _), (17, _)] ⟨rfl, rfl, rfl, trivial⟩ ⟨_, hK4, rfl, h⟩
 rintro e4 w19 ⟨b1, hF, rfl, h⟩
 subst hKF2
 refine qr rfl hF ?_ ?_ <;> intro hF
 ·exact zSR (zp1 rfl (qb (qw qc h hF ⟨rfl, trivial⟩)))
 refine zKSR (zp1 rfl (zl 0 1 h rfl (zp1 rfl ?_)))
 obtain ⟨x1, hx1, hF⟩ := qd hF
 obtain ⟨g1, g2, hx1⟩ := qdz hx1
 refine qeA qc Int h rfl rfl rfl rfl rfl rfl rfl rfl rfl g1 g2 hx1 rfl ?_
 intro w3 S1 p5 h
 refine zp1 rfl (zNSSR (zp1 rfl (zl 1 0 h rfl (zp2 rfl (qb ?_)))))
 obtain ⟨o1, hF, hK1⟩ := qd hF
 refine qv (qR [(2, _), (3, _), (5, _), (23, _), (24, _), (25, _)] ⟨rfl, rfl, rfl, rfl, rfl, rfl, trivial⟩ ?_)
 refine qI (fun m e w' => ∃ (x2 : (List Int)) (i1 : Int), qb8 a_0 a_1 m x2 i1 = some o1 ∧ e = [(2, .pointer (some ⟨bb1, 0, none⟩)), (3, .pointer (some ⟨bb2, 0, none⟩)), (5, .slice p5 x1.length x1.length), (23, .slice p2 a_1.Instances.length k2), (24, .int .i64 (a_1.Instances.length : Int)), (25, .int .i64 i1)] ∧ SH w w' [Ch.own S1 (x2 : List Int) [.slice p5 x1.length x1.length], Ch.box bb2 [.slice p2 a_1.Instances.length k2, .slice p3 a_1.Nets.length k3, .slice p4 a_1.Ports.length k4] 47, Ch.box bb1 [.slice p1 a_0.Cells.length k1] 43]) n ⟨_, _, hF, rfl, h⟩ ?_
 rintro m1 e1 w4 ⟨x2, i1, hF, rfl, h⟩
 rcases m1 with _ | m1
 ·rw [qb8] at hF
  cases hF
 rw [qb8] at hF
 refine zSR (zp1 rfl (zNS ?_))
 refine qr rfl hF ?_ ?_ <;> intro hF
 ·refine zKSBSR ?_
  obtain ⟨y1, hy1, hF⟩ := qd hF
  have he1 := qg hy1
  obtain ⟨b2, o_1, q1, cs3, hp1, hq1, -, hr1, hc3⟩ := s2.at hy1
  obtain ⟨p6, k5, rfl, s5⟩ := qad hr1
  refine zxe hp1 hq1 he1 rfl (zc 0 (hc3.below h.below) rfl (qah qc h rfl rfl rfl ?_))
  intro w5 bb3 h
  refine zs 0 h rfl ?_
  intro w6 h
  refine zNSSR (zl 2 0 h rfl (zl 3 0 h rfl (zl 0 0 h rfl ?_)))
  obtain ⟨r1, hr2, hF⟩ := qd hF
  refine qn r1 h call181 (qim (h.old ha2) (h.old ha1) (qfu y1 (h.oldS s5)) hr2) rfl rfl rfl rfl ?_
  intro w7 h
  refine zp1 rfl (qb ?_)
  refine qr rfl hF ?_ ?_ <;> intro hF
  ·refine zSR (zp1 rfl (qb ?_))
   obtain rfl := qh hF; replace hF := hK1
   exact qw qc h hF ⟨rfl, trivial⟩
  refine qdH (qy (zp2 rfl (zl 0 2 h rfl (zp1 rfl (zl 0 2 h rfl (zp2 rfl ?_))))))
  obtain ⟨y2, hy2, hF⟩ := qd hF
  have he2 := qg hy2
  obtain ⟨b3, o_2, q2, cs4, hp2, hq2, -, hr3, hc5⟩ := s5.at hy2
  obtain rfl := hr3
  refine zxe hp2 hq2 he2 rfl (zc 0 (hc5.below h.below) rfl ?_)
  obtain ⟨y3, hy3, hF⟩ := qd hF
  have he3 := qg hy3
  obtain ⟨b4, o_3, q3, cs5, hp3, hq3, -, hr4, hc6⟩ := (h.sl 1 rfl).1.at hy3
  obtain rfl := hr4
  refine zx hp3 hq3 ⟨he3.1, qae he3.2.1 (h.sl 1 rfl).2⟩ rfl (zc 0 hc6 rfl (zp1 rfl ?_))
  obtain ⟨y4, hy4, hF⟩ := qd hF
  have he4 := qg hy4
  obtain ⟨b5, o_4, q4, cs6, hp4, hq4, -, hr5, hc7⟩ := (h.sl 1 rfl).1.at hy4
  obtain rfl := hr5
  refine zx hp4 hq4 ⟨he4.1, qae he4.2.1 (h.sl 1 rfl).2⟩ rfl (qcS qc 1 0 (W64 (y3 + 1)) h rfl hy4 hp4 hq4 rfl hc7 rfl rfl rfl rfl rfl rfl rfl ?_)
  intro w8 h
  refine zNER (zp2 rfl (qb ?_))
  replace h := h.pick [1, 2, 3] rfl
  exact qA m1 [(2, _), (3, _), (5, _), (23, _), (24, _), (25, _)] (Nat.lt_succ_self m1) ⟨rfl, rfl, rfl, rfl, rfl, rfl, trivial⟩ ⟨_, _, hF, rfl, h⟩
 refine qH rfl ?_
 obtain rfl := qh hF; replace hF := hK1
 refine zSSR (zp1 rfl (zl 1 2 h rfl (zp2 rfl (qb ?_))))
 obtain ⟨o2, hF, hK2⟩ := qd hF
 refine qv ?_
 replace h := h.pick [0, 1] rfl
 refine qR [(3, _), (5, _), (49, _), (50, _), (51, _)] ⟨rfl, rfl, rfl, rfl, rfl, trivial⟩ ?_
 refine qI (fun m e w' => ∃ (x3 : (List Int)) (i2 : Int), qbA a_1 m x3 i2 = some o2 ∧ e = [(3, .pointer (some ⟨bb2, 0, none⟩)), (5, .slice p5 x1.length x1.length), (49, .slice p4 a_1.Ports.length k4), (50, .int .i64 (a_1.Ports.length : Int)), (51, .int .i64 i2)] ∧ SH w w' [Ch.own S1 (x3 : List Int) [.slice p5 x1.length x1.length], Ch.box bb2 [.slice p2 a_1.Instances.length k2, .slice p3 a_1.Nets.length k3, .slice p4 a_1.Ports.length k4] 47]) n ⟨_, _, hF, rfl, h⟩ ?_
 rintro m2 e2 w9 ⟨x3, i2, hF, rfl, h⟩
 rcases m2 with _ | m2
 ·rw [qbA] at hF
  cases hF
 rw [qbA] at hF
 refine zSR (zp1 rfl (zNS ?_))
 refine qr rfl hF ?_ ?_ <;> intro hF
 ·refine zKSBSR ?_
  obtain ⟨y5, hy5, hF⟩ := qd hF
  have he5 := qg hy5
  obtain ⟨b6, o_5, q5, cs7, hp5, hq5, -, hr6, hc9⟩ := s4.at hy5
  obtain rfl := qaW hr6
  refine zxe hp5 hq5 he5 rfl (zc 0 (hc9.below h.below) rfl (qah qc h rfl rfl rfl ?_))
  intro w10 bb4 h
  refine zs 0 h rfl ?_
  intro w11 h
  replace h : SH _ _ [Ch.box bb4 [.string y5.Name, .int .i64 y5.Dir, .int .i64 y5.Net] 187, Ch.own S1 (x3 : List Int) [.slice p5 x1.length x1.length], Ch.box bb2 [.slice p2 a_1.Instances.length k2, .slice p3 a_1.Nets.length k3, .slice p4 a_1.Ports.length k4] 47] := h
  refine zNSS ?_
  obtain ⟨KF1, hKF1, o3, hF, hK3⟩ := bindE hF
  refine qen (fun e w' => ∃ (b7 : Bool), KF1 b7 = some o2 ∧ e = [(3, .pointer (some ⟨bb2, 0, none⟩)), (5, .slice p5 x1.length x1.length), (9, .pointer (some ⟨bb4, 0, none⟩)), (49, .slice p4 a_1.Ports.length k4), (50, .int .i64 (a_1.Ports.length : Int)), (51, .int .i64 i2), (69, .bool b7)] ∧ SH w w' [Ch.box bb4 [.string y5.Name, .int .i64 y5.Dir, .int .i64 y5.Net] 187, Ch.own S1 (x3 : List Int) [.slice p5 x1.length x1.length], Ch.box bb2 [.slice p2 a_1.Instances.length k2, .slice p3 a_1.Nets.length k3, .slice p4 a_1.Ports.length k4] 47]) ?_ ?_
  ·refine qy (zp1 rfl (zl 0 1 h rfl (zp2 rfl ?_)))
   by_cases hc14 : (y5.Dir != 1) = true
   ·replace hF := bifT hc14 hF
    refine qD hc14 (t := 58) rfl (qa rfl (zp1 rfl (qa rfl (zl 0 1 h rfl (qa rfl (zp3 rfl ?_))))))
    by_cases hc15 : (y5.Dir != 2) = true
    ·replace hF := bifT hc15 hF
     refine qD hc15 (t := 63) rfl (zn5 rfl (zp1 rfl (qb ?_)))
     obtain rfl := qh hF
     exact qx [(3, _), (5, _), (9, _), (49, _), (50, _), (51, _), (69, _)] ⟨rfl, rfl, rfl, rfl, rfl, rfl, rfl, trivial⟩ ⟨_, hK3, rfl, h⟩
    replace hc15 := zb hc15
    replace hF := bifF hc15 hF
    refine qE hc15 (t := 63) rfl (qa rfl (zl 2 0 h rfl (qa rfl (zp1 rfl (qa rfl (zl 0 2 h rfl (qa rfl ?_)))))))
    obtain ⟨r2, hr9, hF⟩ := qd hF
    refine qn r2 h call182 (qfG (h.old ha2) hr9) rfl rfl rfl rfl ?_
    intro w13 h
    refine qa rfl (zp2 rfl (qb ?_))
    obtain rfl := qh hF
    exact qx [(3, _), (5, _), (9, _), (49, _), (50, _), (51, _), (69, _)] ⟨rfl, rfl, rfl, rfl, rfl, rfl, rfl, trivial⟩ ⟨_, hK3, rfl, h⟩
   replace hc14 := zb hc14
   replace hF := bifF hc14 hF
   refine qE hc14 (t := 58) rfl (zn3 rfl (zp2 rfl (qa rfl (zl 2 0 h rfl (qa rfl (zp1 rfl (qa rfl (zl 0 2 h rfl ?_))))))))
   refine qa rfl ?_
   obtain ⟨r3, hr10, hF⟩ := qd hF
   refine qn r3 h call182 (qfG (h.old ha2) hr10) rfl rfl rfl rfl ?_
   intro w14 h
   refine qa rfl (zp2 rfl (qb ?_))
   obtain rfl := qh hF
   exact qx [(3, _), (5, _), (9, _), (49, _), (50, _), (51, _), (69, _)] ⟨rfl, rfl, rfl, rfl, rfl, rfl, rfl, trivial⟩ ⟨_, hK3, rfl, h⟩
  rintro e3 w15 ⟨b7, hF, rfl, h⟩
  subst hKF1
  refine qr rfl hF ?_ ?_ <;> intro hF
  ·refine zSR (zp1 rfl (qb ?_))
   obtain rfl := qh hF; replace hF := hK2
   exact qw qc h hF ⟨rfl, trivial⟩
  refine zKSR (zp1 rfl (zl 0 1 h rfl (zp1 rfl (qb ?_))))
  refine qr rfl hF ?_ ?_ <;> intro hF
  ·refine qy (zp2 rfl (zl 0 2 h rfl ?_))
   obtain ⟨y6, hy6, hF⟩ := qd hF
   have he6 := qg hy6
   obtain ⟨b8, o_6, q6, cs8, hp6, hq6, -, hr7, hc12⟩ := (h.sl 1 rfl).1.at hy6
   obtain rfl := hr7
   refine zx hp6 hq6 ⟨he6.1, qae he6.2.1 (h.sl 1 rfl).2⟩ rfl (zc 0 hc12 rfl (zp1 rfl ?_))
   obtain ⟨y7, hy7, hF⟩ := qd hF
   have he7 := qg hy7
   obtain ⟨b9, o_7, q7, cs9, hp7, hq7, -, hr8, hc13⟩ := (h.sl 1 rfl).1.at hy7
   obtain rfl := hr8
   refine zx hp7 hq7 ⟨he7.1, qae he7.2.1 (h.sl 1 rfl).2⟩ rfl (qcS qc 1 0 (W64 (y6 + 1)) h rfl hy7 hp7 hq7 rfl hc13 rfl rfl rfl rfl rfl rfl rfl ?_)
   intro w12 h
   refine zNER (zp2 rfl (qb ?_))
   replace h := h.pick [1, 2] rfl
   exact qA m2 [(3, _), (5, _), (49, _), (50, _), (51, _)] (Nat.lt_succ_self m2) ⟨rfl, rfl, rfl, rfl, rfl, trivial⟩ ⟨_, _, hF, rfl, h⟩
  refine zKER (zp2 rfl (qb ?_))
  replace h := h.pick [1, 2] rfl
  exact qA m2 [(3, _), (5, _), (49, _), (50, _), (51, _)] (Nat.lt_succ_self m2) ⟨rfl, rfl, rfl, rfl, rfl, trivial⟩ ⟨_, _, hF, rfl, h⟩
 refine qH rfl ?_
 obtain rfl := qh hF; replace hF := hK2
 refine zSR (zp1 rfl ?_)
 obtain ⟨r4, hr11, hF⟩ := qd hF
 refine qn r4 h call183 (qfj (h.own 0 rfl) hr11) rfl rfl rfl rfl ?_
 intro w16 h
 exact zp2 rfl (qb (qw qc h hF ⟨rfl, trivial⟩))

def qaY (i1 : Int) (y1 : qk) : Nat → (List Tplace) → Int → Option ((List Tplace) × Int)
 | 0, _, _ => none
 | n + 1, x2, i2 =>
  bif decide (i2 < (y1.Nets.length : Int)) then
   (idx y1.Nets i2).bind fun y2 =>
   (appS x2 ([(⟨i1, i2, y2, (i2 == (W64 ((y1.Nets.length : Int) - 1)))⟩ : Tplace)] : List Tplace)).bind fun x3 =>
   qaY i1 y1 n x3 (W64 (i2 + 1))
  else
   some (x2, i2)

def qaX (d : ql) : Nat → (List Tplace) → Int → Option ((List Tplace) × Int)
 | 0, _, _ => none
 | n + 1, x4, i3 =>
  bif decide (i3 < (d.Ports.length : Int)) then
   (idx d.Ports i3).bind fun y3 =>
   (appS x4 ([(⟨(-1), i3, y3.Net, (y3.Dir == 1)⟩ : Tplace)] : List Tplace)).bind fun x5 =>
   qaX d n x5 (W64 (i3 + 1))
  else
   some (x4, i3)

def qaZ (d : ql) : Nat → (List Tplace) → Int → Option ((List Tplace) × Int)
 | 0, _, _ => none
 | n + 1, x1, i1 =>
  bif decide (i1 < (d.Instances.length : Int)) then
   (idx d.Instances i1).bind fun y1 =>
   (qaY i1 y1 n x1 0).bind fun o => match o with
   | (x2, _) =>
    qaZ d n x2 (W64 (i1 + 1))
  else
   some (x1, i1)

def qbQ (n : Nat) (d : ql) : Option (List Tplace) :=
 (qaZ d n ([] : List Tplace) 0).bind fun o => match o with
 | (x1, _) =>
  (qaX d n x1 0).bind fun o => match o with
  | (x4, _) =>
   some x4

theorem qem {n : Nat} {w : World} {d : ql} {cs1 : List Value} (ha1 : GoT.R w (old w) d cs1) {r : (List Tplace)} (hF : qbQ n d = some r) : RetV Tryz.prog 148 [GoT.v ql cs1] w r := by
 obtain ⟨p1, k1, p2, k2, p3, k3, rfl, s1, s2, s3⟩ := qaS ha1
 refine qe Tryz.func148 rfl (m := 61) rfl rfl (fun h => ?_)
 rw [qbQ] at hF
 refine zSR (qO h rfl rfl ?_)
 intro w1 bb1 h
 refine zp1 rfl (zNSR (zp1 rfl (zNSSR (zp1 rfl (zl 0 0 h rfl (zp1 rfl ?_))))))
 refine zp1 rfl (qb ?_)
 replace h := h.nil (α := Tplace)
 obtain ⟨o1, hF, hK1⟩ := qd hF
 refine qv (qR [(1, _), (3, _), (11, _), (12, _), (13, _)] ⟨rfl, rfl, rfl, rfl, rfl, trivial⟩ ?_)
 refine qI (fun m e w' => ∃ (S1 : Nat → Prop) (p4 : Option Addr) (ln1 : Nat) (k4 : Nat) (x1 : (List Tplace)) (i1 : Int), qaZ d m x1 i1 = some o1 ∧ e = [(1, .pointer (some ⟨bb1, 0, none⟩)), (3, .slice p4 ln1 k4), (11, .slice p1 d.Instances.length k1), (12, .int .i64 (d.Instances.length : Int)), (13, .int .i64 i1)] ∧ SH w w' [Ch.own S1 (x1 : List Tplace) [.slice p4 ln1 k4], Ch.box bb1 [.slice p1 d.Instances.length k1, .slice p2 d.Nets.length k2, .slice p3 d.Ports.length k3] 47]) n ⟨_, _, _, _, _, _, hF, rfl, h⟩ ?_
 rintro m1 e1 w2 ⟨S1, p4, ln1, k4, x1, i1, hF, rfl, h⟩
 obtain rfl := (h.sl 0 rfl).2
 rcases m1 with _ | m1
 ·rw [qaZ] at hF
  cases hF
 rw [qaZ] at hF
 refine zSR (zp1 rfl (zNS ?_))
 refine qr rfl hF ?_ ?_ <;> intro hF
 ·refine zKSBSR (zp1 rfl ?_)
  obtain ⟨y1, hy1, hF⟩ := qd hF
  have he1 := qg hy1
  obtain ⟨b1, o_1, q1, cs2, hp1, hq1, -, hr1, hc2⟩ := s1.at hy1
  obtain ⟨p5, k5, rfl, s4⟩ := qad hr1
  refine zxe hp1 hq1 he1 rfl (zc 0 (hc2.below h.below) rfl (qah qc h rfl rfl rfl ?_))
  intro w3 bb2 h
  refine zp1 rfl (zs 0 h rfl ?_)
  intro w4 h
  replace h : SH _ _ [Ch.box bb2 [.string y1.Name, .int .i64 y1.Cell, .slice p5 y1.Nets.length k5] 185, Ch.own S1 (x1 : List Tplace) [.slice p4 x1.length k4], Ch.box bb1 [.slice p1 d.Instances.length k1, .slice p2 d.Nets.length k2, .slice p3 d.Ports.length k3] 47] := h
  refine zNSR (zp1 rfl (zl 0 2 h rfl (zp2 rfl (qb ?_))))
  obtain ⟨o2, hF, hK2⟩ := qd hF
  refine qv (qR [(1, _), (3, _), (4, _), (5, _), (11, _), (12, _), (13, _), (19, _), (20, _), (21, _)] ⟨rfl, rfl, rfl, rfl, rfl, rfl, rfl, rfl, rfl, rfl, trivial⟩ ?_)
  refine qI (fun m e w' => ∃ (S2 : Nat → Prop) (p6 : Option Addr) (ln2 : Nat) (k6 : Nat) (x2 : (List Tplace)) (i2 : Int), qaY i1 y1 m x2 i2 = some o2 ∧ e = [(1, .pointer (some ⟨bb1, 0, none⟩)), (3, .slice p6 ln2 k6), (4, .int .i64 i1), (5, .pointer (some ⟨bb2, 0, none⟩)), (11, .slice p1 d.Instances.length k1), (12, .int .i64 (d.Instances.length : Int)), (13, .int .i64 i1), (19, .slice p5 y1.Nets.length k5), (20, .int .i64 (y1.Nets.length : Int)), (21, .int .i64 i2)] ∧ SH w w' [Ch.box bb2 [.string y1.Name, .int .i64 y1.Cell, .slice p5 y1.Nets.length k5] 185, Ch.own S2 (x2 : List Tplace) [.slice p6 ln2 k6], Ch.box bb1 [.slice p1 d.Instances.length k1, .slice p2 d.Nets.length k2, .slice p3 d.Ports.length k3] 47]) m1 ⟨_, _, _, _, _, _, hF, rfl, h⟩ ?_
  rintro m2 e2 w5 ⟨S2, p6, ln2, k6, x2, i2, hF, rfl, h⟩
  obtain rfl := (h.sl 1 rfl).2
  rcases m2 with _ | m2
  ·rw [qaY] at hF
   cases hF
  rw [qaY] at hF
  refine zSR (zp1 rfl (zNS ?_))
  refine qr rfl hF ?_ ?_ <;> intro hF
  ·refine zKSBSR (zp1 rfl ?_)
   obtain ⟨y2, hy2, hF⟩ := qd hF
   have he2 := qg hy2
   obtain ⟨b2, o_2, q2, cs3, hp2, hq2, -, hr2, hc4⟩ := s4.at hy2
   obtain rfl := hr2
   refine zxe hp2 hq2 he2 rfl (zc 0 (hc4.below h.below) rfl (zp2 rfl (qb (qy (zp5 rfl (zp1 rfl ?_))))))
   refine zl 0 2 h rfl (zp3 rfl (r_v (qh1 qc [0, 1, 2, 3] [.tmp 27, .tmp 28, .tmp 29, .tmp 35] rfl rfl rfl rfl rfl rfl rfl rfl) rfl (qaB qc [.tmp 36] _ ([(⟨i1, i2, y2, (i2 == (W64 ((y1.Nets.length : Int) - 1)))⟩ : Tplace)] : List Tplace) h rfl rfl rfl rfl rfl rfl rfl rfl rfl ⟨(qiV (⟨i1, i2, y2, (i2 == (W64 ((y1.Nets.length : Int) - 1)))⟩ : Tplace)), trivial⟩ rfl ?_)))
   intro w6 p7 S3 h
   obtain ⟨x3, hx1, hF⟩ := qd hF
   obtain ⟨g1, hx1⟩ := qa8 hx1
   refine qee qc 2 h rfl (h.sl 0 rfl).1 (h.sl 0 rfl).2 rfl rfl rfl rfl rfl rfl rfl rfl rfl g1 hx1 rfl ?_
   intro w7 p8 k7 S4 h
   refine zp1 rfl (zNER (zp2 rfl (qb ?_)))
   replace h := h.pick [1, 2, 3] rfl
   exact qA m2 [(1, _), (3, _), (4, _), (5, _), (11, _), (12, _), (13, _), (19, _), (20, _), (21, _)] (Nat.lt_succ_self m2) ⟨rfl, rfl, rfl, rfl, rfl, rfl, rfl, rfl, rfl, rfl, trivial⟩ ⟨_, _, _, _, _, _, hF, rfl, h⟩
  refine qH rfl ?_
  obtain rfl := qh hF; replace hF := hK2
  refine qf2 (qy (zp2 rfl (qb ?_)))
  replace h := h.pick [1, 2] rfl
  exact qA m1 [(1, _), (3, _), (11, _), (12, _), (13, _)] (Nat.lt_succ_self m1) ⟨rfl, rfl, rfl, rfl, rfl, trivial⟩ ⟨_, _, _, _, _, _, hF, rfl, h⟩
 refine qH rfl ?_
 obtain rfl := qh hF; replace hF := hK1
 refine zSSR (zp1 rfl (zl 1 2 h rfl (zp2 rfl (qb ?_))))
 obtain ⟨o3, hF, hK3⟩ := qd hF
 refine qv ?_
 replace h := h.pick [0] rfl
 refine qR [(3, _), (42, _), (43, _), (44, _)] ⟨rfl, rfl, rfl, rfl, trivial⟩ ?_
 refine qI (fun m e w' => ∃ (S5 : Nat → Prop) (p9 : Option Addr) (ln3 : Nat) (k8 : Nat) (x4 : (List Tplace)) (i3 : Int), qaX d m x4 i3 = some o3 ∧ e = [(3, .slice p9 ln3 k8), (42, .slice p3 d.Ports.length k3), (43, .int .i64 (d.Ports.length : Int)), (44, .int .i64 i3)] ∧ SH w w' [Ch.own S5 (x4 : List Tplace) [.slice p9 ln3 k8]]) n ⟨_, _, _, _, _, _, hF, rfl, h⟩ ?_
 rintro m3 e3 w8 ⟨S5, p9, ln3, k8, x4, i3, hF, rfl, h⟩
 obtain rfl := (h.sl 0 rfl).2
 rcases m3 with _ | m3
 ·rw [qaX] at hF
  cases hF
 rw [qaX] at hF
 refine zSR (zp1 rfl (zNS ?_))
 refine qr rfl hF ?_ ?_ <;> intro hF
 ·refine zKSBSR (zp1 rfl ?_)
  obtain ⟨y3, hy3, hF⟩ := qd hF
  have he3 := qg hy3
  obtain ⟨b3, o_3, q3, cs4, hp3, hq3, -, hr3, hc6⟩ := s3.at hy3
  obtain rfl := qaW hr3
  refine zxe hp3 hq3 he3 rfl (zc 0 (hc6.below h.below) rfl (qah qc h rfl rfl rfl ?_))
  intro w9 bb3 h
  refine zp1 rfl (zs 0 h rfl ?_)
  intro w10 h
  refine qb (qy (zp3 rfl (zl 0 2 h rfl (zp1 rfl (zl 0 1 h rfl (zp1 rfl (r_v (qh1 qc [0, 1, 2, 3] [.const (.int .i64 (-1)), .tmp 50, .tmp 52, .tmp 55] rfl rfl rfl rfl rfl rfl rfl rfl) rfl (qaB qc [.tmp 56] _ ([(⟨(-1), i3, y3.Net, (y3.Dir == 1)⟩ : Tplace)] : List Tplace) h rfl rfl rfl rfl rfl rfl rfl rfl rfl ⟨(qiV (⟨(-1), i3, y3.Net, (y3.Dir == 1)⟩ : Tplace)), trivial⟩ rfl ?_))))))))
  intro w11 p10 S6 h
  obtain ⟨x5, hx2, hF⟩ := qd hF
  obtain ⟨g2, hx2⟩ := qa8 hx2
  refine qee qc 2 h rfl (h.sl 0 rfl).1 (h.sl 0 rfl).2 rfl rfl rfl rfl rfl rfl rfl rfl rfl g2 hx2 rfl ?_
  intro w12 p11 k9 S7 h
  refine zp1 rfl (zNER (zp2 rfl (qb ?_)))
  replace h := h.pick [2] rfl
  exact qA m3 [(3, _), (42, _), (43, _), (44, _)] (Nat.lt_succ_self m3) ⟨rfl, rfl, rfl, rfl, trivial⟩ ⟨_, _, _, _, _, _, hF, rfl, h⟩
 refine qH rfl ?_
 obtain rfl := qh hF; replace hF := hK3
 refine zSR (zp2 rfl (qb ?_))
 obtain rfl := qh hF
 exact qav qc (ρ := (List Tplace)) [GoT.v (List Tplace) [.slice p9 x4.length k8]] h ⟨rfl, trivial⟩ (PV.done h (qaG (qab 0 h rfl)))

def qaP (a_w : qP) : Nat → Int → Option (Flow Bool Int)
 | 0, _ => none
 | n + 1, i1 =>
  bif decide (i1 < (a_w.Parent.length : Int)) then
   (idx a_w.Parent i1).bind fun y1 =>
   bif (i1 == 0) then
    bif (y1 != (-1)) then
     some (.ret false)
    else
     (idx a_w.Res 0).bind fun y2 =>
     bif (y2 != 0) then
      some (.ret false)
     else
      bif decide (i1 > 0) then
       (qaN n y1 0 (W64 (i1 - 1))).bind fun r1 =>
       bif (!r1) then
        some (.ret false)
       else
        qaP a_w n (W64 (i1 + 1))
      else
       qaP a_w n (W64 (i1 + 1))
   else
    bif decide (i1 > 0) then
     (qaN n y1 0 (W64 (i1 - 1))).bind fun r2 =>
     bif (!r2) then
      some (.ret false)
     else
      qaP a_w n (W64 (i1 + 1))
    else
     qaP a_w n (W64 (i1 + 1))
  else
   some (.nxt i1)

def qeV (n : Nat) (a_w : qP) : Option Bool :=
 (qaP a_w n 0).bind fun o => match o with
 | .ret r => some r
 | .nxt _ =>
  some true

theorem qj2 {n : Nat} {w : World} {a_w : qP} {cs1 : List Value} (ha1 : GoT.R w (old w) a_w cs1) {r : Bool} (hF : qeV n a_w = some r) : RetV Tryz.prog 185 [GoT.v qP cs1] w r := by
 obtain ⟨p1, k1, p2, k2, p3, k3, p4, k4, rfl, s1, s2, s3, s4⟩ := qbw ha1
 refine qe Tryz.func185 rfl (m := 38) rfl rfl (fun h => ?_)
 rw [qeV] at hF
 refine zSR (qO h rfl rfl ?_)
 intro w1 bb1 h
 refine zp1 rfl (zNSSR (zp1 rfl (zl 0 0 h rfl (zp2 rfl (qb ?_)))))
 obtain ⟨o1, hF, hK1⟩ := qd hF
 refine qv (qR [(1, _), (6, _), (7, _), (8, _)] ⟨rfl, rfl, rfl, rfl, trivial⟩ ?_)
 refine qI (fun m e w' => ∃ (i1 : Int), qaP a_w m i1 = some o1 ∧ e = [(1, .pointer (some ⟨bb1, 0, none⟩)), (6, .slice p1 a_w.Parent.length k1), (7, .int .i64 (a_w.Parent.length : Int)), (8, .int .i64 i1)] ∧ SH w w' [Ch.box bb1 [.slice p1 a_w.Parent.length k1, .slice p2 a_w.Res.length k2, .slice p3 a_w.Cap.length k3, .slice p4 a_w.Sink.length k4] 130]) n ⟨_, hF, rfl, h⟩ ?_
 rintro m1 e1 w2 ⟨i1, hF, rfl, h⟩
 rcases m1 with _ | m1
 ·rw [qaP] at hF
  cases hF
 rw [qaP] at hF
 refine zSR (zp1 rfl (zNS ?_))
 refine qr rfl hF ?_ ?_ <;> intro hF
 ·refine zKSBSR (zp1 rfl ?_)
  obtain ⟨y1, hy1, hF⟩ := qd hF
  have he1 := qg hy1
  obtain ⟨b1, o_1, q1, cs2, hp1, hq1, -, hr1, hc2⟩ := s1.at hy1
  obtain rfl := hr1
  refine zxe hp1 hq1 he1 rfl (zc 0 (hc2.below h.below) rfl (zp2 rfl (zNSR (zp3 rfl ?_))))
  by_cases hc3 : (i1 == 0) = true
  ·replace hF := bifT hc3 hF
   refine qD hc3 (t := 15) rfl (qa rfl (zp1 rfl (qa rfl (zp1 rfl (qa rfl (zp1 rfl ?_))))))
   by_cases hc4 : (y1 != (-1)) = true
   ·replace hF := bifT hc4 hF
    refine qD hc4 (t := 18) rfl (zn5 rfl (qa rfl (zp3 rfl (zn2 rfl ?_))))
    refine zn5 rfl (zn2 rfl (zp1 rfl (qb (qeR rfl rfl (zSR ?_)))))
    refine zp1 rfl (qb ?_)
    obtain rfl := qh hF; replace hF := hK1
    exact qw qc h hF ⟨rfl, trivial⟩
   replace hc4 := zb hc4
   replace hF := bifF hc4 hF
   refine qE hc4 (t := 18) rfl (qa rfl (zp1 rfl (qa rfl (zl 0 1 h rfl (qa rfl ?_)))))
   obtain ⟨y2, hy2, hF⟩ := qd hF
   have he2 := qg hy2
   obtain ⟨b2, o_2, q2, cs3, hp2, hq2, -, hr2, hc5⟩ := s2.at hy2
   obtain rfl := hr2
   refine zxe hp2 hq2 he2 rfl (qa rfl (zc 0 (hc5.below h.below) rfl (qa rfl (zp1 rfl (qa rfl (zp3 rfl ?_))))))
   by_cases hc6 : (y2 != 0) = true
   ·replace hF := bifT hc6 hF
    refine qD hc6 (t := 26) rfl (zn5 rfl (zn4 rfl (zp1 rfl (qb ?_))))
    refine qeR rfl rfl (zSR (zp1 rfl (qb ?_)))
    obtain rfl := qh hF; replace hF := hK1
    exact qw qc h hF ⟨rfl, trivial⟩
   replace hc6 := zb hc6
   replace hF := bifF hc6 hF
   refine qE hc6 (t := 26) rfl (qa rfl (zp1 rfl (qa rfl (zp1 rfl (qa rfl (zp1 rfl ?_))))))
   by_cases hc7 : (decide (i1 > 0)) = true
   ·replace hF := bifT hc7 hF
    refine qD hc7 (t := 29) rfl (qa rfl (zp1 rfl (qa rfl (zp1 rfl (qa rfl (zp1 rfl (qa rfl ?_)))))))
    obtain ⟨r1, hr3, hF⟩ := qd hF
    refine qn r1 h call86 (qau hr3) rfl rfl rfl rfl ?_
    intro w3 h
    refine qa rfl (zp1 rfl (qa rfl (zp2 rfl (qb ?_))))
    refine qr rfl hF ?_ ?_ <;> intro hF
    ·refine zSR (zp1 rfl (qb ?_))
     obtain rfl := qh hF; replace hF := hK1
     exact qw qc h hF ⟨rfl, trivial⟩
    exact zKER (zp2 rfl (qb (qA m1 [(1, _), (6, _), (7, _), (8, _)] (Nat.lt_succ_self m1) ⟨rfl, rfl, rfl, rfl, trivial⟩ ⟨_, hF, rfl, h⟩)))
   replace hc7 := zb hc7
   replace hF := bifF hc7 hF
   refine qE hc7 (t := 29) rfl (zn5 rfl (qa rfl (zp2 rfl (qb (qel rfl rfl (qdH ?_))))))
   exact qf2 (qy (zp2 rfl (qb (qA m1 [(1, _), (6, _), (7, _), (8, _)] (Nat.lt_succ_self m1) ⟨rfl, rfl, rfl, rfl, trivial⟩ ⟨_, hF, rfl, h⟩))))
  replace hc3 := zb hc3
  replace hF := bifF hc3 hF
  refine qE hc3 (t := 15) rfl (zn5 rfl (zn4 rfl (zp2 rfl ?_)))
  refine qa rfl (zp1 rfl (qa rfl (zp1 rfl (qa rfl (zp1 rfl ?_)))))
  by_cases hc9 : (decide (i1 > 0)) = true
  ·replace hF := bifT hc9 hF
   refine qD hc9 (t := 29) rfl (qa rfl (zp1 rfl (qa rfl (zp1 rfl (qa rfl (zp1 rfl (qa rfl ?_)))))))
   obtain ⟨r2, hr4, hF⟩ := qd hF
   refine qn r2 h call86 (qau hr4) rfl rfl rfl rfl ?_
   intro w4 h
   refine qa rfl (zp1 rfl (qa rfl (zp2 rfl (qb ?_))))
   refine qr rfl hF ?_ ?_ <;> intro hF
   ·refine zSR (zp1 rfl (qb ?_))
    obtain rfl := qh hF; replace hF := hK1
    exact qw qc h hF ⟨rfl, trivial⟩
   exact zKER (zp2 rfl (qb (qA m1 [(1, _), (6, _), (7, _), (8, _)] (Nat.lt_succ_self m1) ⟨rfl, rfl, rfl, rfl, trivial⟩ ⟨_, hF, rfl, h⟩)))
  replace hc9 := zb hc9
  replace hF := bifF hc9 hF
  refine qE hc9 (t := 29) rfl (zn5 rfl (qa rfl (zp2 rfl (qb (qel rfl rfl (qdH ?_))))))
  exact qf2 (qy (zp2 rfl (qb (qA m1 [(1, _), (6, _), (7, _), (8, _)] (Nat.lt_succ_self m1) ⟨rfl, rfl, rfl, rfl, trivial⟩ ⟨_, hF, rfl, h⟩))))
 refine qH rfl ?_
 obtain rfl := qh hF; replace hF := hK1
 exact zSR (zp1 rfl (qb (qw qc h hF ⟨rfl, trivial⟩)))

def qhI (n : Nat) (a_w : qP) (sinks : Int) : Option Bool :=
 (qaH n a_w.Parent).bind fun r1 =>
 (qaN n r1 1 8).bind fun r2 =>
 bif r2 then
  (qaH n a_w.Res).bind fun r3 =>
  bif (r3 == r1) then
   (qaH n a_w.Cap).bind fun r4 =>
   bif (r4 == r1) then
    (qeV n a_w).bind fun r5 =>
    bif r5 then
     (qbx n a_w.Res 0 1000).bind fun r6 =>
     bif r6 then
      (qbx n a_w.Cap 0 500).bind fun r7 =>
      bif r7 then
       (qaH n a_w.Sink).bind fun r8 =>
       bif (r8 == sinks) then
        (qbx n a_w.Sink 0 (W64 (r1 - 1))).bind fun r9 =>
        some r9
       else
        some false
      else
       some false
     else
      some false
    else
     some false
   else
    some false
  else
   some false
 else
  some false

theorem qmn {n : Nat} {w : World} {a_w : qP} {sinks : Int} {cs1 : List Value} (ha1 : GoT.R w (old w) a_w cs1) {r : Bool} (hF : qhI n a_w sinks = some r) : RetV Tryz.prog 149 [GoT.v qP cs1, .int .i64 sinks] w r := by
 obtain ⟨p1, k1, p2, k2, p3, k3, p4, k4, rfl, s1, s2, s3, s4⟩ := qbw ha1
 refine qe Tryz.func149 rfl (m := 53) rfl rfl (fun h => ?_)
 rw [qhI] at hF
 refine zSR (qO h rfl rfl ?_)
 intro w1 bb1 h
 refine zp1 rfl (zNSR (zp1 rfl (zl 0 0 h rfl ?_)))
 obtain ⟨r1, hr1, hF⟩ := qd hF
 refine qT r1 h call87 (qbW ⟨_, _, rfl, (h.oldS s1)⟩ hr1) rfl rfl rfl rfl ?_
 intro w2 h
 refine zp1 rfl (zNSR (zp1 rfl ?_))
 obtain ⟨r2, hr2, hF⟩ := qd hF
 refine qn r2 h call86 (qau hr2) rfl rfl rfl rfl ?_
 intro w3 h
 refine zp1 rfl ?_
 by_cases hc1 : r2 = true
 ·replace hF := bifT hc1 hF
  refine qD hc1 (t := 11) rfl (qa rfl (zp1 rfl (qa rfl (zl 0 1 h rfl (qa rfl ?_)))))
  obtain ⟨r3, hr3, hF⟩ := qd hF
  refine qT r3 h call87 (qbW ⟨_, _, rfl, (h.oldS s2)⟩ hr3) rfl rfl rfl rfl ?_
  intro w4 h
  refine qa rfl (zp1 rfl (qa rfl (zp3 rfl ?_)))
  by_cases hc2 : (r3 == r1) = true
  ·replace hF := bifT hc2 hF
   refine qD hc2 (t := 18) rfl (qa rfl (zp1 rfl (qa rfl (zl 0 2 h rfl (qa rfl ?_)))))
   obtain ⟨r4, hr4, hF⟩ := qd hF
   refine qT r4 h call87 (qbW ⟨_, _, rfl, (h.oldS s3)⟩ hr4) rfl rfl rfl rfl ?_
   intro w5 h
   refine qa rfl (zp1 rfl (qa rfl (zp3 rfl ?_)))
   by_cases hc3 : (r4 == r1) = true
   ·replace hF := bifT hc3 hF
    refine qD hc3 (t := 25) rfl (qa rfl (zl 0 0 h rfl (qa rfl ?_)))
    obtain ⟨r5, hr5, hF⟩ := qd hF
    refine qn r5 h call185 (qj2 (h.old ha1) hr5) rfl rfl rfl rfl ?_
    intro w6 h
    refine zp2 rfl ?_
    by_cases hc4 : r5 = true
    ·replace hF := bifT hc4 hF
     refine qD hc4 (t := 29) rfl (qa rfl (zp1 rfl (qa rfl (zl 0 1 h rfl (qa rfl ?_)))))
     obtain ⟨r6, hr6, hF⟩ := qd hF
     refine qn r6 h call112 (qcQ ⟨_, _, rfl, (h.oldS s2)⟩ hr6) rfl rfl rfl rfl ?_
     intro w7 h
     refine zp2 rfl ?_
     by_cases hc5 : r6 = true
     ·replace hF := bifT hc5 hF
      refine qD hc5 (t := 34) rfl (qa rfl (zp1 rfl (qa rfl (zl 0 2 h rfl (qa rfl ?_)))))
      obtain ⟨r7, hr7, hF⟩ := qd hF
      refine qn r7 h call112 (qcQ ⟨_, _, rfl, (h.oldS s3)⟩ hr7) rfl rfl rfl rfl ?_
      intro w8 h
      refine zp2 rfl ?_
      by_cases hc6 : r7 = true
      ·replace hF := bifT hc6 hF
       refine qD hc6 (t := 39) rfl (qa rfl (zp1 rfl (qa rfl (zl 0 3 h rfl (qa rfl ?_)))))
       obtain ⟨r8, hr8, hF⟩ := qd hF
       refine qT r8 h call87 (qbW ⟨_, _, rfl, (h.oldS s4)⟩ hr8) rfl rfl rfl rfl ?_
       intro w9 h
       refine qa rfl (zp1 rfl (qa rfl (zp3 rfl ?_)))
       by_cases hc7 : (r8 == sinks) = true
       ·replace hF := bifT hc7 hF
        refine qD hc7 (t := 46) rfl (qa rfl (zp1 rfl (qa rfl (zl 0 3 h rfl (qa rfl (zp1 rfl (qa rfl (zp1 rfl (qa rfl ?_)))))))))
        obtain ⟨r9, hr9, hF⟩ := qd hF
        refine qn r9 h call112 (qcQ ⟨_, _, rfl, (h.oldS s4)⟩ hr9) rfl rfl rfl rfl ?_
        intro w10 h
        exact zp2 rfl (qb (qw qc h hF ⟨rfl, trivial⟩))
       replace hc7 := zb hc7
       replace hF := bifF hc7 hF
       exact qE hc7 (t := 46) rfl (zn5 rfl (zp2 rfl (qb (qw qc h hF ⟨rfl, trivial⟩))))
      replace hc6 := zb hc6
      replace hF := bifF hc6 hF
      refine qE hc6 (t := 39) rfl (zn5 rfl (zp2 rfl (zn4 rfl ?_)))
      exact zn1 rfl (zp2 rfl (qb (qw qc h hF ⟨rfl, trivial⟩)))
     replace hc5 := zb hc5
     replace hF := bifF hc5 hF
     refine qE hc5 (t := 34) rfl (zn3 rfl (zp2 rfl (zn5 rfl (zp1 rfl ?_))))
     exact zp1 rfl (zn5 rfl (zp2 rfl (qb (qw qc h hF ⟨rfl, trivial⟩))))
    replace hc4 := zb hc4
    replace hF := bifF hc4 hF
    refine qE hc4 (t := 29) rfl (zn3 rfl (zp2 rfl (zn3 rfl (zp2 rfl (zn1 rfl ?_)))))
    refine zn4 rfl (zp2 rfl (zn5 rfl (zp1 rfl ?_)))
    exact zp1 rfl (qb (qw qc h hF ⟨rfl, trivial⟩))
   replace hc3 := zb hc3
   replace hF := bifF hc3 hF
   refine qE hc3 (t := 25) rfl (zn2 rfl (zp2 rfl (zn3 rfl (zp2 rfl (zn2 rfl ?_)))))
   refine zn1 rfl (zp2 rfl (zn5 rfl (zp2 rfl (zn2 rfl ?_))))
   exact zn3 rfl (zp2 rfl (qb (qw qc h hF ⟨rfl, trivial⟩)))
  replace hc2 := zb hc2
  replace hF := bifF hc2 hF
  refine qE hc2 (t := 18) rfl (zn5 rfl (zp2 rfl (zn2 rfl (zp2 rfl ?_))))
  refine zn3 rfl (zp2 rfl (zn3 rfl (zp2 rfl (zn2 rfl ?_))))
  refine zn3 rfl (zp2 rfl (zn5 rfl (zp2 rfl ?_)))
  exact qb (qw qc h hF ⟨rfl, trivial⟩)
 replace hc1 := zb hc1
 replace hF := bifF hc1 hF
 refine qE hc1 (t := 11) rfl (zn5 rfl (zp2 rfl (zn4 rfl ?_)))
 refine zn1 rfl (zp2 rfl (zn2 rfl (zp2 rfl (zn3 rfl (zp2 rfl ?_)))))
 refine zn3 rfl (zp2 rfl (zn5 rfl (zp2 rfl ?_)))
 exact zn5 rfl (zp2 rfl (qb (qw qc h hF ⟨rfl, trivial⟩)))

def qcV (b : qF) (x2 : (List Int)) : Nat → Int → Option (Flow Bool Int)
 | 0, _ => none
 | n + 1, i2 =>
  bif decide (i2 < (b.Wires.length : Int)) then
   (idx b.Wires i2).bind fun y4 =>
   (idx x2 i2).bind fun y5 =>
   (qhI n y4 y5).bind fun r2 =>
   bif (!r2) then
    some (.ret false)
   else
    qcV b x2 n (W64 (i2 + 1))
  else
   some (.nxt i2)

def qb1 (r1 : (List Tplace)) : Nat → (List Int) → Int → Option ((List Int) × Int)
 | 0, _, _ => none
 | n + 1, x2, i1 =>
  bif decide (i1 < (r1.length : Int)) then
   (idx r1 i1).bind fun y1 =>
   bif (!y1.drives) then
    (idx x2 y1.net).bind fun y2 =>
    (idx x2 y1.net).bind fun _ =>
    qb1 r1 n (setS x2 y1.net (W64 (y2 + 1))) (W64 (i1 + 1))
   else
    qb1 r1 n x2 (W64 (i1 + 1))
  else
   some (x2, i1)

def qgP (n : Nat) (b : qF) : Option Bool :=
 (
  (qf7 n (⟨b.Library.Cells⟩ : qz) (⟨b.Design.Instances, b.Design.Nets, b.Design.Ports⟩ : ql)).bind fun r3 =>
  bif (!r3) then
   some true
  else
   some ((b.Wires.length : Int) != (b.Design.Nets.length : Int))).bind fun b1 =>
 bif b1 then
  some false
 else
  (mkS (b.Wires.length : Int) (0 : Int)).bind fun x1 =>
  (qbQ n (⟨b.Design.Instances, b.Design.Nets, b.Design.Ports⟩ : ql)).bind fun r1 =>
  (qb1 r1 n x1 0).bind fun o => match o with
  | (x2, _) =>
   (qcV b x2 n 0).bind fun o => match o with
   | .ret r => some r
   | .nxt _ =>
    some true

theorem qlz {n : Nat} {w : World} {b : qF} {cs1 : List Value} (ha1 : GoT.R w (old w) b cs1) {r : Bool} (hF : qgP n b = some r) : RetV Tryz.prog 108 [GoT.v qF cs1] w r := by
 obtain ⟨p1, k1, p2, k2, p3, k3, p4, k4, p5, k5, rfl, s1, s2, s3, s4, s5⟩ := qar ha1
 refine qe Tryz.func108 rfl (m := 63) rfl rfl (fun h => ?_)
 rw [qgP] at hF
 refine zSR (qO h rfl rfl ?_)
 intro w1 bb1 h
 refine zp1 rfl (zNSS ?_)
 obtain ⟨KF1, hKF1, o3, hF, hK3⟩ := bindE hF
 refine qen (fun e w' => ∃ (b1 : Bool), KF1 b1 = some r ∧ e = [(1, .pointer (some ⟨bb1, 0, none⟩)), (23, .bool b1)] ∧ SH w w' [Ch.box bb1 [.slice p1 b.Library.Cells.length k1, .slice p2 b.Design.Instances.length k2, .slice p3 b.Design.Nets.length k3, .slice p4 b.Design.Ports.length k4, .slice p5 b.Wires.length k5] 50]) ?_ ?_
 ·refine qy (zp1 rfl (zl 0 0 h rfl (zp1 rfl (zl 0 1 h rfl ?_))))
  obtain ⟨r3, hr8, hF⟩ := qd hF
  refine qn r3 h call147 (qkV (qfl (⟨b.Library.Cells⟩ : qz) (h.oldS s1)) (qco (⟨b.Design.Instances, b.Design.Nets, b.Design.Ports⟩ : ql) (h.oldS s2) (h.oldS s3) (h.oldS s4)) hr8) rfl rfl rfl rfl ?_
  intro w12 h
  refine zp2 rfl ?_
  by_cases hc11 : (!r3) = true
  ·replace hF := bifT hc11 hF
   refine qD hc11 (t := 14) rfl (zn5 rfl (zn3 rfl (zp1 rfl (qb ?_))))
   obtain rfl := qh hF
   exact qx [(1, _), (23, _)] ⟨rfl, rfl, trivial⟩ ⟨_, hK3, rfl, h⟩
  replace hc11 := zb hc11
  replace hF := bifF hc11 hF
  refine qE hc11 (t := 14) rfl (qa rfl (zp1 rfl (qa rfl (zl 0 4 h rfl (qa rfl (zp1 rfl (qa rfl (zp1 rfl (qa rfl (zp1 rfl (qa rfl ?_)))))))))))
  refine zl 0 2 h rfl (qa rfl (zp1 rfl (qa rfl (zp2 rfl (qb ?_)))))
  obtain rfl := qh hF
  exact qx [(1, _), (23, _)] ⟨rfl, rfl, trivial⟩ ⟨_, hK3, rfl, h⟩
 rintro e3 w13 ⟨b1, hF, rfl, h⟩
 subst hKF1
 refine qr rfl hF ?_ ?_ <;> intro hF
 ·exact zSR (zp1 rfl (qb (qw qc h hF ⟨rfl, trivial⟩)))
 refine zKSR (zp1 rfl (zl 0 4 h rfl (zp1 rfl ?_)))
 obtain ⟨x1, hx1, hF⟩ := qd hF
 obtain ⟨g1, g2, hx1⟩ := qdz hx1
 refine qeA qc Int h rfl rfl rfl rfl rfl rfl rfl rfl rfl g1 g2 hx1 rfl ?_
 intro w2 S1 p6 h
 refine zp1 rfl (zNSSR (zp1 rfl (zl 1 1 h rfl ?_)))
 obtain ⟨r1, hr1, hF⟩ := qd hF
 refine qat r1 h call148 (qem (qco (⟨b.Design.Instances, b.Design.Nets, b.Design.Ports⟩ : ql) (h.oldS s2) (h.oldS s3) (h.oldS s4)) hr1) rfl rfl rfl rfl ?_
 intro w3 S2 p7 k6 h
 refine zp2 rfl (qb ?_)
 obtain ⟨o1, hF, hK1⟩ := qd hF
 refine qv (qR [(1, _), (3, _), (30, _), (31, _), (32, _)] ⟨rfl, rfl, rfl, rfl, rfl, trivial⟩ ?_)
 refine qI (fun m e w' => ∃ (x2 : (List Int)) (i1 : Int), qb1 r1 m x2 i1 = some o1 ∧ e = [(1, .pointer (some ⟨bb1, 0, none⟩)), (3, .slice p6 x1.length x1.length), (30, .slice p7 r1.length k6), (31, .int .i64 (r1.length : Int)), (32, .int .i64 i1)] ∧ SH w w' [Ch.own S2 (r1 : List Tplace) [.slice p7 r1.length k6], Ch.own S1 (x2 : List Int) [.slice p6 x1.length x1.length], Ch.box bb1 [.slice p1 b.Library.Cells.length k1, .slice p2 b.Design.Instances.length k2, .slice p3 b.Design.Nets.length k3, .slice p4 b.Design.Ports.length k4, .slice p5 b.Wires.length k5] 50]) n ⟨_, _, hF, rfl, h⟩ ?_
 rintro m1 e1 w4 ⟨x2, i1, hF, rfl, h⟩
 rcases m1 with _ | m1
 ·rw [qb1] at hF
  cases hF
 rw [qb1] at hF
 refine zSR (zp1 rfl (zNS ?_))
 refine qr rfl hF ?_ ?_ <;> intro hF
 ·refine zKSBSR ?_
  obtain ⟨y1, hy1, hF⟩ := qd hF
  have he1 := qg hy1
  obtain ⟨b2, o_1, q1, cs2, hp1, hq1, -, hr2, hc3⟩ := (h.sl 0 rfl).1.at hy1
  obtain rfl := qhK hr2
  refine zx hp1 hq1 ⟨he1.1, qae he1.2.1 (h.sl 0 rfl).2⟩ rfl (zc 0 hc3 rfl (qah qc h rfl rfl rfl ?_))
  intro w5 bb2 h
  refine zs 0 h rfl ?_
  intro w6 h
  refine zNSR (zp1 rfl (zl 0 3 h rfl (zp1 rfl (qb ?_))))
  refine qr rfl hF ?_ ?_ <;> intro hF
  ·refine qy (zp2 rfl (zl 0 2 h rfl ?_))
   obtain ⟨y2, hy2, hF⟩ := qd hF
   have he2 := qg hy2
   obtain ⟨b3, o_2, q2, cs3, hp2, hq2, -, hr3, hc5⟩ := (h.sl 2 rfl).1.at hy2
   obtain rfl := hr3
   refine zx hp2 hq2 ⟨he2.1, qae he2.2.1 (h.sl 2 rfl).2⟩ rfl (zc 0 hc5 rfl (zp1 rfl ?_))
   obtain ⟨y3, hy3, hF⟩ := qd hF
   have he3 := qg hy3
   obtain ⟨b4, o_3, q3, cs4, hp3, hq3, -, hr4, hc6⟩ := (h.sl 2 rfl).1.at hy3
   obtain rfl := hr4
   refine zx hp3 hq3 ⟨he3.1, qae he3.2.1 (h.sl 2 rfl).2⟩ rfl (qcS qc 2 0 (W64 (y2 + 1)) h rfl hy3 hp3 hq3 rfl hc6 rfl rfl rfl rfl rfl rfl rfl ?_)
   intro w7 h
   refine zNER (zp2 rfl (qb ?_))
   replace h := h.pick [1, 2, 3] rfl
   exact qA m1 [(1, _), (3, _), (30, _), (31, _), (32, _)] (Nat.lt_succ_self m1) ⟨rfl, rfl, rfl, rfl, rfl, trivial⟩ ⟨_, _, hF, rfl, h⟩
  refine zKER (zp2 rfl (qb ?_))
  replace h := h.pick [1, 2, 3] rfl
  exact qA m1 [(1, _), (3, _), (30, _), (31, _), (32, _)] (Nat.lt_succ_self m1) ⟨rfl, rfl, rfl, rfl, rfl, trivial⟩ ⟨_, _, hF, rfl, h⟩
 refine qH rfl ?_
 obtain rfl := qh hF; replace hF := hK1
 refine zSSR (zp1 rfl (zl 2 4 h rfl (zp2 rfl (qb ?_))))
 obtain ⟨o2, hF, hK2⟩ := qd hF
 refine qv ?_
 replace h := h.pick [1] rfl
 refine qR [(3, _), (48, _), (49, _), (50, _)] ⟨rfl, rfl, rfl, rfl, trivial⟩ ?_
 refine qI (fun m e w' => ∃ (i2 : Int), qcV b x2 m i2 = some o2 ∧ e = [(3, .slice p6 x1.length x1.length), (48, .slice p5 b.Wires.length k5), (49, .int .i64 (b.Wires.length : Int)), (50, .int .i64 i2)] ∧ SH w w' [Ch.own S1 (x2 : List Int) [.slice p6 x1.length x1.length]]) n ⟨_, hF, rfl, h⟩ ?_
 rintro m2 e2 w8 ⟨i2, hF, rfl, h⟩
 rcases m2 with _ | m2
 ·rw [qcV] at hF
  cases hF
 rw [qcV] at hF
 refine zSR (zp1 rfl (zNS ?_))
 refine qr rfl hF ?_ ?_ <;> intro hF
 ·refine zKSBSR (zp1 rfl ?_)
  obtain ⟨y4, hy4, hF⟩ := qd hF
  have he4 := qg hy4
  obtain ⟨b5, o_4, q4, cs5, hp4, hq4, -, hr5, hc8⟩ := s5.at hy4
  obtain ⟨p8, k7, p9, k8, p10, k9, p11, k10, rfl, s6, s7, s8, s9⟩ := qbw hr5
  refine zxe hp4 hq4 he4 rfl (zc 0 (hc8.below h.below) rfl (qah qc h rfl rfl rfl ?_))
  intro w9 bb3 h
  refine zp1 rfl (zs 0 h rfl ?_)
  intro w10 h
  replace h : SH _ _ [Ch.box bb3 [.slice p8 y4.Parent.length k7, .slice p9 y4.Res.length k8, .slice p10 y4.Cap.length k9, .slice p11 y4.Sink.length k10] 130, Ch.own S1 (x2 : List Int) [.slice p6 x1.length x1.length]] := h
  refine zNS ?_
  refine qc7 rfl (by kernel_rfl) ?_
  refine zdl 0 0 h rfl ?_
  refine zd2 rfl ?_
  obtain ⟨y5, hy5, hF⟩ := qd hF
  have he5 := qg hy5
  obtain ⟨b6, o_5, q5, cs6, hp5, hq5, -, hr6, hc9⟩ := (h.sl 1 rfl).1.at hy5
  obtain rfl := hr6
  refine zdx hp5 hq5 ⟨he5.1, qae he5.2.1 (h.sl 1 rfl).2⟩ rfl ?_
  refine zdc 0 hc9 rfl ?_
  obtain ⟨r2, hr7, hF⟩ := qd hF
  refine qcI r2 (vsB _) call149 (fun _ hb => qmn (qh8 y4 ((h.ext hb).oldS s6) ((h.ext hb).oldS s7) ((h.ext hb).oldS s8) ((h.ext hb).oldS s9)) hr7) rfl rfl rfl rfl ?_
  refine zd1 rfl ?_
  refine qbm (fun w11 hb => ?_)
  replace h := h.ext hb
  clear hb
  refine qr rfl hF ?_ ?_ <;> intro hF
  ·refine zSR (zp1 rfl (qb ?_))
   obtain rfl := qh hF; replace hF := hK2
   exact qw qc h hF ⟨rfl, trivial⟩
  refine zKER (zp2 rfl (qb ?_))
  replace h := h.pick [1] rfl
  exact qA m2 [(3, _), (48, _), (49, _), (50, _)] (Nat.lt_succ_self m2) ⟨rfl, rfl, rfl, rfl, trivial⟩ ⟨_, hF, rfl, h⟩
 refine qH rfl ?_
 obtain rfl := qh hF; replace hF := hK2
 exact zSR (zp1 rfl (qb (qw qc h hF ⟨rfl, trivial⟩)))

end Go.Fw


namespace Go.Fw
open Go

def qaq (a : (List Int)) : Nat := a.length
theorem qc4 {a : (List Int)} (h : (rngL rngI) a) (w : qaq a ≤ 1048576) : (okL okI) a :=
  ⟨by simp only [qaq] at w; omega, fun x hx => h.2 x hx⟩
def qgA (x : qC) : Prop := (rngL rngI) x.Slews ∧ (rngL rngI) x.Loads ∧ (rngL rngI) x.Values
def qdR (x : qC) : Nat := qaq x.Slews + qaq x.Loads + qaq x.Values
structure qg9 (x : qC) : Prop where
  Slews : (okL okI) x.Slews
  Loads : (okL okI) x.Loads
  Values : (okL okI) x.Values
theorem qov {x : qC} (h : qgA x) (w : qdR x ≤ 1048576) : qg9 x := ⟨qc4 (h.1) (by simp only [qdR] at w; omega), qc4 (h.2.1) (by simp only [qdR] at w; omega), qc4 (h.2.2) (by simp only [qdR] at w; omega)⟩
def qdc (a : (List qC)) : Nat := a.length + (a.map fun x => qdR x).sum
theorem qk7 {a : (List qC)} (h : (rngL qgA) a) (w : qdc a ≤ 1048576) : (okL qg9) a :=
  ⟨by simp only [qdc] at w; omega, fun x hx => qov (h.2 x hx) (by have := qcd (wt := fun x : qC => qdR x) hx; simp only [qdc] at w; omega)⟩
def qi3 (x : qY) : Prop := rngI x.Kind ∧ rngI x.From ∧ rngI x.To ∧ rngI x.Sense ∧ (rngL qgA) x.Delay ∧ (rngL qgA) x.Slew
def qhg (x : qY) : Nat := qdc x.Delay + qdc x.Slew
structure qkc (x : qY) : Prop where
  Kind : okI x.Kind
  From : okI x.From
  To : okI x.To
  Sense : okI x.Sense
  Delay : (okL qg9) x.Delay
  Slew : (okL qg9) x.Slew
theorem qqO {x : qY} (h : qi3 x) (w : qhg x ≤ 1048576) : qkc x := ⟨h.1, h.2.1, h.2.2.1, h.2.2.2.1, qk7 (h.2.2.2.2.1) (by simp only [qhg] at w; omega), qk7 (h.2.2.2.2.2) (by simp only [qhg] at w; omega)⟩
theorem qdi {a : (List Int)} (h : qaq a ≤ 1048576) : Ev (fun n => qaD n a a) true := by
  have hl : a.length ≤ 1048576 := by simp only [qaq] at h; omega
  unfold qaD
  exact Ev.ff (by simp) (Ev.bind (b := .nxt (a.length : Int)) (qhA (eqf := fun _ x y => some (!(x != y))) (fun x _ => Ev.now (by simp))
    (fun n => by simp only [qde, qu (Nat.le_refl _), cond_false])
    (fun n j x hx => by
      have hj := (List.getElem?_eq_some_iff.1 hx).1
      simp only [qde, qt hj, cond_true, qam hx, Option.bind_some, Bool.not_not, qq (show j < 9223372036854775807 by omega)])) .done)

theorem qqH {a : qC} (h : qdR a ≤ 1048576) : Ev (fun n => qfT n a a) true := by
  unfold qfT
  simp only [qdR] at h
  exact Ev.bind (qdi (a := a.Slews) (by omega)) (Ev.ff rfl (Ev.bind (qdi (a := a.Loads) (by omega)) (Ev.ff rfl (Ev.bind (qdi (a := a.Values) (by omega)) (Ev.ff rfl (.done))))))

theorem qm0 {a : (List qC)} (h : qdc a ≤ 1048576) : Ev (fun n => qfw n a a) true := by
  have hl : a.length ≤ 1048576 := by simp only [qdc] at h; omega
  unfold qfw
  exact Ev.ff (by simp) (Ev.bind (b := .nxt (a.length : Int)) (qhA (eqf := qfT) (fun x hx => qqH (by have := qcd (wt := fun x : qC => qdR x) hx; simp only [qdc] at h; omega))
    (fun n => by simp only [qdh, qu (Nat.le_refl _), cond_false])
    (fun n j x hx => by
      have hj := (List.getElem?_eq_some_iff.1 hx).1
      simp only [qdh, qt hj, cond_true, qam hx, Option.bind_some, qq (show j < 9223372036854775807 by omega)])) .done)

theorem qrN {a : qY} (h : qhg a ≤ 1048576) : Ev (fun n => qho n a a) true := by
  unfold qho
  simp only [qhg] at h
  exact Ev.ff qbF (Ev.ff qbF (Ev.ff qbF (Ev.ff qbF (Ev.bind (qm0 (a := a.Delay) (by omega)) (Ev.ff rfl (Ev.bind (qm0 (a := a.Slew) (by omega)) (Ev.ff rfl (.done))))))))

def qf6 (a : (List qY)) : Nat := a.length + (a.map fun x => qhg x).sum
theorem qps {a : (List qY)} (h : (rngL qi3) a) (w : qf6 a ≤ 1048576) : (okL qkc) a :=
  ⟨by simp only [qf6] at w; omega, fun x hx => qqO (h.2 x hx) (by have := qcd (wt := fun x : qY => qhg x) hx; simp only [qf6] at w; omega)⟩
theorem qrm {a : (List qY)} (h : qf6 a ≤ 1048576) : Ev (fun n => qhE n a a) true := by
  have hl : a.length ≤ 1048576 := by simp only [qf6] at h; omega
  unfold qhE
  exact Ev.ff (by simp) (Ev.bind (b := .nxt (a.length : Int)) (qhA (eqf := qho) (fun x hx => qrN (by have := qcd (wt := fun x : qY => qhg x) hx; simp only [qf6] at h; omega))
    (fun n => by simp only [qd6, qu (Nat.le_refl _), cond_false])
    (fun n j x hx => by
      have hj := (List.getElem?_eq_some_iff.1 hx).1
      simp only [qd6, qt hj, cond_true, qam hx, Option.bind_some, qq (show j < 9223372036854775807 by omega)])) .done)

def qi4 (x : qaf) : Prop := rngS x.Name ∧ rngI x.Dir ∧ rngI x.Cap ∧ rngB x.Clock
def qid (x : qaf) : Nat := x.Name.size
structure qjz (x : qaf) : Prop where
  Name : okS x.Name
  Dir : okI x.Dir
  Cap : okI x.Cap
  Clock : okT x.Clock
theorem qp8 {x : qaf} (h : qi4 x) (w : qid x ≤ 1048576) : qjz x := ⟨(by unfold okS; simp only [qid] at w; omega), h.2.1, h.2.2.1, trivial⟩
def qf3 (a : (List qaf)) : Nat := a.length + (a.map fun x => qid x).sum
theorem qpN {a : (List qaf)} (h : (rngL qi4) a) (w : qf3 a ≤ 1048576) : (okL qjz) a :=
  ⟨by simp only [qf3] at w; omega, fun x hx => qp8 (h.2 x hx) (by have := qcd (wt := fun x : qaf => qid x) hx; simp only [qf3] at w; omega)⟩
def qij (x : qB) : Prop := rngS x.Name ∧ rngI x.Kind ∧ (rngL qi4) x.Pins ∧ (rngL qi3) x.Arcs ∧ (rngL rngI) x.Truth ∧ rngI x.Leak ∧ rngI x.Energy
def qe2 (x : qB) : Nat := x.Name.size + qf3 x.Pins + qf6 x.Arcs + qaq x.Truth
structure qjM (x : qB) : Prop where
  Name : okS x.Name
  Kind : okI x.Kind
  Pins : (okL qjz) x.Pins
  Arcs : (okL qkc) x.Arcs
  Truth : (okL okI) x.Truth
  Leak : okI x.Leak
  Energy : okI x.Energy
theorem qpC {x : qB} (h : qij x) (w : qe2 x ≤ 1048576) : qjM x := ⟨(by unfold okS; simp only [qe2] at w; omega), h.2.1, qpN (h.2.2.1) (by simp only [qe2] at w; omega), qps (h.2.2.2.1) (by simp only [qe2] at w; omega), qc4 (h.2.2.2.2.1) (by simp only [qe2] at w; omega), h.2.2.2.2.2.1, h.2.2.2.2.2.2⟩
def qfh (a : (List qB)) : Nat := a.length + (a.map fun x => qe2 x).sum
theorem qoJ {a : (List qB)} (h : (rngL qij) a) (w : qfh a ≤ 1048576) : (okL qjM) a :=
  ⟨by simp only [qfh] at w; omega, fun x hx => qpC (h.2 x hx) (by have := qcd (wt := fun x : qB => qe2 x) hx; simp only [qfh] at w; omega)⟩
def qis (x : qz) : Prop := (rngL qij) x.Cells
def qdW (x : qz) : Nat := qfh x.Cells
structure qgr (x : qz) : Prop where
  Cells : (okL qjM) x.Cells
theorem qns {x : qz} (h : qis x) (w : qdW x ≤ 1048576) : qgr x := ⟨qoJ (h) (by simp only [qdW] at w; omega)⟩
def qfo (x : qk) : Prop := rngS x.Name ∧ rngI x.Cell ∧ (rngL rngI) x.Nets
def qbH (x : qk) : Nat := x.Name.size + qaq x.Nets
structure qjm (x : qk) : Prop where
  Name : okS x.Name
  Cell : okI x.Cell
  Nets : (okL okI) x.Nets
theorem qmL {x : qk} (h : qfo x) (w : qbH x ≤ 1048576) : qjm x := ⟨(by unfold okS; simp only [qbH] at w; omega), h.2.1, qc4 (h.2.2) (by simp only [qbH] at w; omega)⟩
def qbV (a : (List qk)) : Nat := a.length + (a.map fun x => qbH x).sum
theorem qmd {a : (List qk)} (h : (rngL qfo) a) (w : qbV a ≤ 1048576) : (okL qjm) a :=
  ⟨by simp only [qbV] at w; omega, fun x hx => qmL (h.2 x hx) (by have := qcd (wt := fun x : qk => qbH x) hx; simp only [qbV] at w; omega)⟩
def qdZ (a : (List ByteArray)) : Nat := a.length + (a.map fun x => x.size).sum
theorem qnA {a : (List ByteArray)} (_ : (rngL rngS) a) (w : qdZ a ≤ 1048576) : (okL okS) a :=
  ⟨by simp only [qdZ] at w; omega, fun x hx => (by unfold okS; have := qcd (wt := fun x : ByteArray => x.size) hx; simp only [qdZ] at w; omega)⟩
def qia (x : qV) : Prop := rngS x.Name ∧ rngI x.Dir ∧ rngI x.Net
def qgo (x : qV) : Nat := x.Name.size
structure qnp (x : qV) : Prop where
  Name : okS x.Name
  Dir : okI x.Dir
  Net : okI x.Net
theorem qpX {x : qV} (h : qia x) (w : qgo x ≤ 1048576) : qnp x := ⟨(by unfold okS; simp only [qgo] at w; omega), h.2.1, h.2.2⟩
def qfi (a : (List qV)) : Nat := a.length + (a.map fun x => qgo x).sum
theorem qo8 {a : (List qV)} (h : (rngL qia) a) (w : qfi a ≤ 1048576) : (okL qnp) a :=
  ⟨by simp only [qfi] at w; omega, fun x hx => qpX (h.2 x hx) (by have := qcd (wt := fun x : qV => qgo x) hx; simp only [qfi] at w; omega)⟩
def qi5 (x : ql) : Prop := (rngL qfo) x.Instances ∧ (rngL rngS) x.Nets ∧ (rngL qia) x.Ports
def qeg (x : ql) : Nat := qbV x.Instances + qdZ x.Nets + qfi x.Ports
structure qh6 (x : ql) : Prop where
  Instances : (okL qjm) x.Instances
  Nets : (okL okS) x.Nets
  Ports : (okL qnp) x.Ports
theorem qof {x : ql} (h : qi5 x) (w : qeg x ≤ 1048576) : qh6 x := ⟨qmd (h.1) (by simp only [qeg] at w; omega), qnA (h.2.1) (by simp only [qeg] at w; omega), qo8 (h.2.2) (by simp only [qeg] at w; omega)⟩
def qif (x : qP) : Prop := (rngL rngI) x.Parent ∧ (rngL rngI) x.Res ∧ (rngL rngI) x.Cap ∧ (rngL rngI) x.Sink
def qe9 (x : qP) : Nat := qaq x.Parent + qaq x.Res + qaq x.Cap + qaq x.Sink
structure qkD (x : qP) : Prop where
  Parent : (okL okI) x.Parent
  Res : (okL okI) x.Res
  Cap : (okL okI) x.Cap
  Sink : (okL okI) x.Sink
theorem qp4 {x : qP} (h : qif x) (w : qe9 x ≤ 1048576) : qkD x := ⟨qc4 (h.1) (by simp only [qe9] at w; omega), qc4 (h.2.1) (by simp only [qe9] at w; omega), qc4 (h.2.2.1) (by simp only [qe9] at w; omega), qc4 (h.2.2.2) (by simp only [qe9] at w; omega)⟩
def qfm (a : (List qP)) : Nat := a.length + (a.map fun x => qe9 x).sum
theorem qoB {a : (List qP)} (h : (rngL qif) a) (w : qfm a ≤ 1048576) : (okL qkD) a :=
  ⟨by simp only [qfm] at w; omega, fun x hx => qp4 (h.2 x hx) (by have := qcd (wt := fun x : qP => qe9 x) hx; simp only [qfm] at w; omega)⟩
def qjP (x : qF) : Prop := qis x.Library ∧ qi5 x.Design ∧ (rngL qif) x.Wires
def qff (x : qF) : Nat := qdW x.Library + qeg x.Design + qfm x.Wires
structure qgV (x : qF) : Prop where
  Library : qgr x.Library
  Design : qh6 x.Design
  Wires : (okL qkD) x.Wires
theorem qoy {x : qF} (h : qjP x) (w : qff x ≤ 1048576) : qgV x := ⟨qns (h.1) (by simp only [qff] at w; omega), qof (h.2.1) (by simp only [qff] at w; omega), qoB (h.2.2) (by simp only [qff] at w; omega)⟩
theorem qrP {a : qaf} (_ : qid a ≤ 1048576) : Ev (fun n => qhh n a a) true := by
  unfold qhh
  exact Ev.ff qhZ (Ev.ff qbF (Ev.ff qbF (Ev.ff qnl (.done))))

theorem qq2 {a : (List qaf)} (h : qf3 a ≤ 1048576) : Ev (fun n => qhH n a a) true := by
  have hl : a.length ≤ 1048576 := by simp only [qf3] at h; omega
  unfold qhH
  exact Ev.ff (by simp) (Ev.bind (b := .nxt (a.length : Int)) (qhA (eqf := qhh) (fun x hx => qrP (by have := qcd (wt := fun x : qaf => qid x) hx; simp only [qf3] at h; omega))
    (fun n => by simp only [qd5, qu (Nat.le_refl _), cond_false])
    (fun n j x hx => by
      have hj := (List.getElem?_eq_some_iff.1 hx).1
      simp only [qd5, qt hj, cond_true, qam hx, Option.bind_some, qq (show j < 9223372036854775807 by omega)])) .done)

theorem qq9 {a : qB} (h : qe2 a ≤ 1048576) : Ev (fun n => qgt n a a) true := by
  unfold qgt
  simp only [qe2] at h
  exact Ev.ff qhZ (Ev.ff qbF (Ev.bind (qq2 (a := a.Pins) (by omega)) (Ev.ff rfl (Ev.bind (qrm (a := a.Arcs) (by omega)) (Ev.ff rfl (Ev.bind (qdi (a := a.Truth) (by omega)) (Ev.ff rfl (Ev.ff qbF (Ev.ff qbF (.done))))))))))

theorem qqm {a : (List qB)} (h : qfh a ≤ 1048576) : Ev (fun n => qgJ n a a) true := by
  have hl : a.length ≤ 1048576 := by simp only [qfh] at h; omega
  unfold qgJ
  exact Ev.ff (by simp) (Ev.bind (b := .nxt (a.length : Int)) (qhA (eqf := qgt) (fun x hx => qq9 (by have := qcd (wt := fun x : qB => qe2 x) hx; simp only [qfh] at h; omega))
    (fun n => by simp only [qdK, qu (Nat.le_refl _), cond_false])
    (fun n j x hx => by
      have hj := (List.getElem?_eq_some_iff.1 hx).1
      simp only [qdK, qt hj, cond_true, qam hx, Option.bind_some, qq (show j < 9223372036854775807 by omega)])) .done)

theorem qo5 {a : qz} (h : qdW a ≤ 1048576) : Ev (fun n => qfF n a a) true := by
  unfold qfF
  simp only [qdW] at h
  exact Ev.bind (qqm (a := a.Cells) (by omega)) (Ev.ff rfl (.done))

theorem qnY {a : qk} (h : qbH a ≤ 1048576) : Ev (fun n => qer n a a) true := by
  unfold qer
  simp only [qbH] at h
  exact Ev.ff qhZ (Ev.ff qbF (Ev.bind (qdi (a := a.Nets) (by omega)) (Ev.ff rfl (.done))))

theorem qnm {a : (List qk)} (h : qbV a ≤ 1048576) : Ev (fun n => qe7 n a a) true := by
  have hl : a.length ≤ 1048576 := by simp only [qbV] at h; omega
  unfold qe7
  exact Ev.ff (by simp) (Ev.bind (b := .nxt (a.length : Int)) (qhA (eqf := qer) (fun x hx => qnY (by have := qcd (wt := fun x : qk => qbH x) hx; simp only [qbV] at h; omega))
    (fun n => by simp only [qcb, qu (Nat.le_refl _), cond_false])
    (fun n j x hx => by
      have hj := (List.getElem?_eq_some_iff.1 hx).1
      simp only [qcb, qt hj, cond_true, qam hx, Option.bind_some, qq (show j < 9223372036854775807 by omega)])) .done)

theorem qo9 {a : (List ByteArray)} (h : qdZ a ≤ 1048576) : Ev (fun n => qfL n a a) true := by
  have hl : a.length ≤ 1048576 := by simp only [qdZ] at h; omega
  unfold qfL
  exact Ev.ff (by simp) (Ev.bind (b := .nxt (a.length : Int)) (qhA (eqf := fun _ x y => some (!(x.toList != y.toList))) (fun x _ => Ev.now (by simp))
    (fun n => by simp only [qcK, qu (Nat.le_refl _), cond_false])
    (fun n j x hx => by
      have hj := (List.getElem?_eq_some_iff.1 hx).1
      simp only [qcK, qt hj, cond_true, qam hx, Option.bind_some, Bool.not_not, qq (show j < 9223372036854775807 by omega)])) .done)

theorem qrd {a : qV} (_ : qgo a ≤ 1048576) : Ev (fun n => qgu n a a) true := by
  unfold qgu
  exact Ev.ff qhZ (Ev.ff qbF (Ev.ff qbF (.done)))

theorem qqe {a : (List qV)} (h : qfi a ≤ 1048576) : Ev (fun n => qgZ n a a) true := by
  have hl : a.length ≤ 1048576 := by simp only [qfi] at h; omega
  unfold qgZ
  exact Ev.ff (by simp) (Ev.bind (b := .nxt (a.length : Int)) (qhA (eqf := qgu) (fun x hx => qrd (by have := qcd (wt := fun x : qV => qgo x) hx; simp only [qfi] at h; omega))
    (fun n => by simp only [qdL, qu (Nat.le_refl _), cond_false])
    (fun n j x hx => by
      have hj := (List.getElem?_eq_some_iff.1 hx).1
      simp only [qdL, qt hj, cond_true, qam hx, Option.bind_some, qq (show j < 9223372036854775807 by omega)])) .done)

theorem qpv {a : ql} (h : qeg a ≤ 1048576) : Ev (fun n => qf9 n a a) true := by
  unfold qf9
  simp only [qeg] at h
  exact Ev.bind (qnm (a := a.Instances) (by omega)) (Ev.ff rfl (Ev.bind (qo9 (a := a.Nets) (by omega)) (Ev.ff rfl (Ev.bind (qqe (a := a.Ports) (by omega)) (Ev.ff rfl (.done))))))

theorem qq6 {a : qP} (h : qe9 a ≤ 1048576) : Ev (fun n => qgD n a a) true := by
  unfold qgD
  simp only [qe9] at h
  exact Ev.bind (qdi (a := a.Parent) (by omega)) (Ev.ff rfl (Ev.bind (qdi (a := a.Res) (by omega)) (Ev.ff rfl (Ev.bind (qdi (a := a.Cap) (by omega)) (Ev.ff rfl (Ev.bind (qdi (a := a.Sink) (by omega)) (Ev.ff rfl (.done))))))))

theorem qqs {a : (List qP)} (h : qfm a ≤ 1048576) : Ev (fun n => qgT n a a) true := by
  have hl : a.length ≤ 1048576 := by simp only [qfm] at h; omega
  unfold qgT
  exact Ev.ff (by simp) (Ev.bind (b := .nxt (a.length : Int)) (qhA (eqf := qgD) (fun x hx => qq6 (by have := qcd (wt := fun x : qP => qe9 x) hx; simp only [qfm] at h; omega))
    (fun n => by simp only [qdM, qu (Nat.le_refl _), cond_false])
    (fun n j x hx => by
      have hj := (List.getElem?_eq_some_iff.1 hx).1
      simp only [qdM, qt hj, cond_true, qam hx, Option.bind_some, qq (show j < 9223372036854775807 by omega)])) .done)

theorem qqu {a : qF} (h : qff a ≤ 1048576) : Ev (fun n => qgM n a a) true := by
  unfold qgM
  simp only [qff] at h
  exact Ev.bind (qo5 (a := a.Library) (by omega)) (Ev.ff rfl (Ev.bind (qpv (a := a.Design) (by omega)) (Ev.ff rfl (Ev.bind (qqs (a := a.Wires) (by omega)) (Ev.ff rfl (.done))))))

theorem qes {a : (List Int)} {left : Int} (h : (rngL rngI) a) (h0 : 0 ≤ left) (h1 : left ≤ 1048576) : Sz (fun n => qbg n a left) (fun r => r = left - (qaq a : Int)) :=
  Sz.less h0 h1 (by omega) (by have := h.1; omega) (fun _ => rfl)

theorem qqE {a : qC} {left : Int} (h : qgA a) (h0 : 0 ≤ left) (h1 : left ≤ 1048576) : Sz (fun n => qfR n a left) (fun r => r = left - (qdR a : Int)) := by
  unfold qfR
  obtain ⟨h_0, h_1, h_2⟩ := h
  exact Sz.step (qes (a := a.Slews) h_0 (by omega) (by omega)) fun r0 p0 q0 => Sz.step (qes (a := a.Loads) h_1 (by omega) (by omega)) fun r1 p1 q1 => Sz.step (qes (a := a.Values) h_2 (by omega) (by omega)) fun r2 p2 q2 => Sz.done p2 (by simp only [qdR]; omega)

theorem qmY {a : (List qC)} {left : Int} (h : (rngL qgA) a) (h0 : 0 ≤ left) (h1 : left ≤ 1048576) : Sz (fun n => qf8 n a left) (fun r => r = left - (qdc a : Int)) :=
  Sz.list (Lf := qcD a) (wt := fun x : qC => qdR x) (el := qfR) h0 h1 h.1 (fun x hx left p q => qqE (h.2 x hx) p q)
    (fun acc n => by simp only [qcD, qu (Nat.le_refl _), cond_false])
    (fun acc n j x hx => by
      have hj := (List.getElem?_eq_some_iff.1 hx).1
      have hl := h.1
      simp only [qcD, qt hj, cond_true, qam hx, Option.bind_some, qq (show j < 9223372036854775807 by omega)])
    (fun _ => rfl)

theorem qrK {a : qY} {left : Int} (h : qi3 a) (h0 : 0 ≤ left) (h1 : left ≤ 1048576) : Sz (fun n => qhq n a left) (fun r => r = left - (qhg a : Int)) := by
  unfold qhq
  obtain ⟨h_0, h_1, h_2, h_3, h_4, h_5⟩ := h
  exact Sz.step (qmY (a := a.Delay) h_4 (by omega) (by omega)) fun r0 p0 q0 => Sz.step (qmY (a := a.Slew) h_5 (by omega) (by omega)) fun r1 p1 q1 => Sz.done p1 (by simp only [qhg]; omega)

theorem qq4 {a : (List qY)} {left : Int} (h : (rngL qi3) a) (h0 : 0 ≤ left) (h1 : left ≤ 1048576) : Sz (fun n => qio n a left) (fun r => r = left - (qf6 a : Int)) :=
  Sz.list (Lf := qdB a) (wt := fun x : qY => qhg x) (el := qhq) h0 h1 h.1 (fun x hx left p q => qrK (h.2 x hx) p q)
    (fun acc n => by simp only [qdB, qu (Nat.le_refl _), cond_false])
    (fun acc n j x hx => by
      have hj := (List.getElem?_eq_some_iff.1 hx).1
      have hl := h.1
      simp only [qdB, qt hj, cond_true, qam hx, Option.bind_some, qq (show j < 9223372036854775807 by omega)])
    (fun _ => rfl)

theorem qrG {a : qaf} {left : Int} (h : qi4 a) (h0 : 0 ≤ left) (h1 : left ≤ 1048576) : Sz (fun n => qhw n a left) (fun r => r = left - (qid a : Int)) := by
  unfold qhw
  obtain ⟨h_0, h_1, h_2, h_3⟩ := h
  exact Sz.strStep h_0 (by omega) (by omega) fun p0 q0 => Sz.done p0 (by simp only [qid]; omega)

theorem qqY {a : (List qaf)} {left : Int} (h : (rngL qi4) a) (h0 : 0 ≤ left) (h1 : left ≤ 1048576) : Sz (fun n => qiq n a left) (fun r => r = left - (qf3 a : Int)) :=
  Sz.list (Lf := qdr a) (wt := fun x : qaf => qid x) (el := qhw) h0 h1 h.1 (fun x hx left p q => qrG (h.2 x hx) p q)
    (fun acc n => by simp only [qdr, qu (Nat.le_refl _), cond_false])
    (fun acc n j x hx => by
      have hj := (List.getElem?_eq_some_iff.1 hx).1
      have hl := h.1
      simp only [qdr, qt hj, cond_true, qam hx, Option.bind_some, qq (show j < 9223372036854775807 by omega)])
    (fun _ => rfl)

theorem qre {a : qB} {left : Int} (h : qij a) (h0 : 0 ≤ left) (h1 : left ≤ 1048576) : Sz (fun n => qgy n a left) (fun r => r = left - (qe2 a : Int)) := by
  unfold qgy
  obtain ⟨h_0, h_1, h_2, h_3, h_4, h_5, h_6⟩ := h
  exact Sz.strStep h_0 (by omega) (by omega) fun p0 q0 => Sz.step (qqY (a := a.Pins) h_2 (by omega) (by omega)) fun r1 p1 q1 => Sz.step (qq4 (a := a.Arcs) h_3 (by omega) (by omega)) fun r2 p2 q2 => Sz.step (qes (a := a.Truth) h_4 (by omega) (by omega)) fun r3 p3 q3 => Sz.done p3 (by simp only [qe2]; omega)

theorem qqK {a : (List qB)} {left : Int} (h : (rngL qij) a) (h0 : 0 ≤ left) (h1 : left ≤ 1048576) : Sz (fun n => qh0 n a left) (fun r => r = left - (qfh a : Int)) :=
  Sz.list (Lf := qc3 a) (wt := fun x : qB => qe2 x) (el := qgy) h0 h1 h.1 (fun x hx left p q => qre (h.2 x hx) p q)
    (fun acc n => by simp only [qc3, qu (Nat.le_refl _), cond_false])
    (fun acc n j x hx => by
      have hj := (List.getElem?_eq_some_iff.1 hx).1
      have hl := h.1
      simp only [qc3, qt hj, cond_true, qam hx, Option.bind_some, qq (show j < 9223372036854775807 by omega)])
    (fun _ => rfl)

theorem qoR {a : qz} {left : Int} (h : qis a) (h0 : 0 ≤ left) (h1 : left ≤ 1048576) : Sz (fun n => qfI n a left) (fun r => r = left - (qdW a : Int)) := by
  unfold qfI
  have h_0 := h
  exact Sz.step (qqK (a := a.Cells) h_0 (by omega) (by omega)) fun r0 p0 q0 => Sz.done p0 (by simp only [qdW]; omega)

theorem qn8 {a : qk} {left : Int} (h : qfo a) (h0 : 0 ≤ left) (h1 : left ≤ 1048576) : Sz (fun n => qeu n a left) (fun r => r = left - (qbH a : Int)) := by
  unfold qeu
  obtain ⟨h_0, h_1, h_2⟩ := h
  exact Sz.strStep h_0 (by omega) (by omega) fun p0 q0 => Sz.step (qes (a := a.Nets) h_2 (by omega) (by omega)) fun r1 p1 q1 => Sz.done p1 (by simp only [qbH]; omega)

theorem qno {a : (List qk)} {left : Int} (h : (rngL qfo) a) (h0 : 0 ≤ left) (h1 : left ≤ 1048576) : Sz (fun n => qfV n a left) (fun r => r = left - (qbV a : Int)) :=
  Sz.list (Lf := qbE a) (wt := fun x : qk => qbH x) (el := qeu) h0 h1 h.1 (fun x hx left p q => qn8 (h.2 x hx) p q)
    (fun acc n => by simp only [qbE, qu (Nat.le_refl _), cond_false])
    (fun acc n j x hx => by
      have hj := (List.getElem?_eq_some_iff.1 hx).1
      have hl := h.1
      simp only [qbE, qt hj, cond_true, qam hx, Option.bind_some, qq (show j < 9223372036854775807 by omega)])
    (fun _ => rfl)

theorem qoZ {a : (List ByteArray)} {left : Int} (h : (rngL rngS) a) (h0 : 0 ≤ left) (h1 : left ≤ 1048576) : Sz (fun n => qhf n a left) (fun r => r = left - (qdZ a : Int)) :=
  Sz.list (Lf := qcf a) (wt := fun x : ByteArray => x.size) (el := fun _ (x : ByteArray) acc => some (W64 (acc - (x.size : Int)))) h0 h1 h.1 (fun x hx left p q => Sz.str (h.2 x hx) p q)
    (fun acc n => by simp only [qcf, qu (Nat.le_refl _), cond_false])
    (fun acc n j x hx => by
      have hj := (List.getElem?_eq_some_iff.1 hx).1
      have hl := h.1
      simp only [qcf, qt hj, cond_true, qam hx, Option.bind_some, qq (show j < 9223372036854775807 by omega)])
    (fun _ => rfl)

theorem qrg {a : qV} {left : Int} (h : qia a) (h0 : 0 ≤ left) (h1 : left ≤ 1048576) : Sz (fun n => qgs n a left) (fun r => r = left - (qgo a : Int)) := by
  unfold qgs
  obtain ⟨h_0, h_1, h_2⟩ := h
  exact Sz.strStep h_0 (by omega) (by omega) fun p0 q0 => Sz.done p0 (by simp only [qgo]; omega)

theorem qqa {a : (List qV)} {left : Int} (h : (rngL qia) a) (h0 : 0 ≤ left) (h1 : left ≤ 1048576) : Sz (fun n => qh2 n a left) (fun r => r = left - (qfi a : Int)) :=
  Sz.list (Lf := qcY a) (wt := fun x : qV => qgo x) (el := qgs) h0 h1 h.1 (fun x hx left p q => qrg (h.2 x hx) p q)
    (fun acc n => by simp only [qcY, qu (Nat.le_refl _), cond_false])
    (fun acc n j x hx => by
      have hj := (List.getElem?_eq_some_iff.1 hx).1
      have hl := h.1
      simp only [qcY, qt hj, cond_true, qam hx, Option.bind_some, qq (show j < 9223372036854775807 by omega)])
    (fun _ => rfl)

theorem qpA {a : ql} {left : Int} (h : qi5 a) (h0 : 0 ≤ left) (h1 : left ≤ 1048576) : Sz (fun n => qgk n a left) (fun r => r = left - (qeg a : Int)) := by
  unfold qgk
  obtain ⟨h_0, h_1, h_2⟩ := h
  exact Sz.step (qno (a := a.Instances) h_0 (by omega) (by omega)) fun r0 p0 q0 => Sz.step (qoZ (a := a.Nets) h_1 (by omega) (by omega)) fun r1 p1 q1 => Sz.step (qqa (a := a.Ports) h_2 (by omega) (by omega)) fun r2 p2 q2 => Sz.done p2 (by simp only [qeg]; omega)

theorem qq0 {a : qP} {left : Int} (h : qif a) (h0 : 0 ≤ left) (h1 : left ≤ 1048576) : Sz (fun n => qgF n a left) (fun r => r = left - (qe9 a : Int)) := by
  unfold qgF
  obtain ⟨h_0, h_1, h_2, h_3⟩ := h
  exact Sz.step (qes (a := a.Parent) h_0 (by omega) (by omega)) fun r0 p0 q0 => Sz.step (qes (a := a.Res) h_1 (by omega) (by omega)) fun r1 p1 q1 => Sz.step (qes (a := a.Cap) h_2 (by omega) (by omega)) fun r2 p2 q2 => Sz.step (qes (a := a.Sink) h_3 (by omega) (by omega)) fun r3 p3 q3 => Sz.done p3 (by simp only [qe9]; omega)

theorem qqJ {a : (List qP)} {left : Int} (h : (rngL qif) a) (h0 : 0 ≤ left) (h1 : left ≤ 1048576) : Sz (fun n => qh3 n a left) (fun r => r = left - (qfm a : Int)) :=
  Sz.list (Lf := qc5 a) (wt := fun x : qP => qe9 x) (el := qgF) h0 h1 h.1 (fun x hx left p q => qq0 (h.2 x hx) p q)
    (fun acc n => by simp only [qc5, qu (Nat.le_refl _), cond_false])
    (fun acc n j x hx => by
      have hj := (List.getElem?_eq_some_iff.1 hx).1
      have hl := h.1
      simp only [qc5, qt hj, cond_true, qam hx, Option.bind_some, qq (show j < 9223372036854775807 by omega)])
    (fun _ => rfl)

theorem qqb {a : qF} {left : Int} (h : qjP a) (h0 : 0 ≤ left) (h1 : left ≤ 1048576) : Sz (fun n => qgW n a left) (fun r => r = left - (qff a : Int)) := by
  unfold qgW
  obtain ⟨h_0, h_1, h_2⟩ := h
  exact Sz.step (qoR (a := a.Library) h_0 (by omega) (by omega)) fun r0 p0 q0 => Sz.step (qpA (a := a.Design) h_1 (by omega) (by omega)) fun r1 p1 q1 => Sz.step (qqJ (a := a.Wires) h_2 (by omega) (by omega)) fun r2 p2 q2 => Sz.done p2 (by simp only [qff]; omega)

theorem qeq {a : (List Int)} (h : qaq a ≤ 1048576) : Ev (fun n => qa4 n a) a := by
  have hl : a.length ≤ 1048576 := by simp only [qaq] at h; omega
  unfold qa4
  exact Ev.bindN (qgY (by omega)) (Ev.bind (b := (a, (a.length : Int))) (qhy (cp := fun _ x => some x) (fun _ _ => .done)
    (fun acc n => by simp only [qdk, qu (Nat.le_refl _), cond_false])
    (fun acc n j x y hx hy => by
      have hj := (List.getElem?_eq_some_iff.1 hx).1
      simp only [qdk, qt hj, cond_true, qam hx, qam hy, Option.bind_some, qq (show j < 9223372036854775807 by omega)])) .done)

theorem qqR {a : qC} (h : qdR a ≤ 1048576) : Ev (fun n => qfS n a) a := by
  unfold qfS
  simp only [qdR] at h
  exact Ev.bind (qeq (a := a.Slews) (by omega)) (Ev.bind (qeq (a := a.Loads) (by omega)) (Ev.bind (qeq (a := a.Values) (by omega)) (.done)))

theorem qmX {a : (List qC)} (h : qdc a ≤ 1048576) : Ev (fun n => qfx n a) a := by
  have hl : a.length ≤ 1048576 := by simp only [qdc] at h; omega
  unfold qfx
  exact Ev.bindN (qgY (by omega)) (Ev.bind (b := (a, (a.length : Int))) (qhy (cp := qfS) (fun x hx => qqR (by have := qcd (wt := fun x : qC => qdR x) hx; simp only [qdc] at h; omega))
    (fun acc n => by simp only [qdf, qu (Nat.le_refl _), cond_false])
    (fun acc n j x y hx hy => by
      have hj := (List.getElem?_eq_some_iff.1 hx).1
      simp only [qdf, qt hj, cond_true, qam hx, qam hy, Option.bind_some, qq (show j < 9223372036854775807 by omega)])) .done)

theorem qrF {a : qY} (h : qhg a ≤ 1048576) : Ev (fun n => qhl n a) a := by
  unfold qhl
  simp only [qhg] at h
  exact Ev.bind (qmX (a := a.Delay) (by omega)) (Ev.bind (qmX (a := a.Slew) (by omega)) (.done))

theorem qqZ {a : (List qY)} (h : qf6 a ≤ 1048576) : Ev (fun n => qhN n a) a := by
  have hl : a.length ≤ 1048576 := by simp only [qf6] at h; omega
  unfold qhN
  exact Ev.bindN (qgY (by omega)) (Ev.bind (b := (a, (a.length : Int))) (qhy (cp := qhl) (fun x hx => qrF (by have := qcd (wt := fun x : qY => qhg x) hx; simp only [qf6] at h; omega))
    (fun acc n => by simp only [qea, qu (Nat.le_refl _), cond_false])
    (fun acc n j x y hx hy => by
      have hj := (List.getElem?_eq_some_iff.1 hx).1
      simp only [qea, qt hj, cond_true, qam hx, qam hy, Option.bind_some, qq (show j < 9223372036854775807 by omega)])) .done)

theorem qrH {a : qaf} (_ : qid a ≤ 1048576) : Ev (fun n => qhs n a) a := by
  unfold qhs
  exact .done

theorem qrl {a : (List qaf)} (h : qf3 a ≤ 1048576) : Ev (fun n => qhG n a) a := by
  have hl : a.length ≤ 1048576 := by simp only [qf3] at h; omega
  unfold qhG
  exact Ev.bindN (qgY (by omega)) (Ev.bind (b := (a, (a.length : Int))) (qhy (cp := qhs) (fun x hx => qrH (by have := qcd (wt := fun x : qaf => qid x) hx; simp only [qf3] at h; omega))
    (fun acc n => by simp only [qec, qu (Nat.le_refl _), cond_false])
    (fun acc n j x y hx hy => by
      have hj := (List.getElem?_eq_some_iff.1 hx).1
      simp only [qec, qt hj, cond_true, qam hx, qam hy, Option.bind_some, qq (show j < 9223372036854775807 by omega)])) .done)

theorem qrf {a : qB} (h : qe2 a ≤ 1048576) : Ev (fun n => qgz n a) a := by
  unfold qgz
  simp only [qe2] at h
  exact Ev.bind (qrl (a := a.Pins) (by omega)) (Ev.bind (qqZ (a := a.Arcs) (by omega)) (Ev.bind (qeq (a := a.Truth) (by omega)) (.done)))

theorem qqM {a : (List qB)} (h : qfh a ≤ 1048576) : Ev (fun n => qgI n a) a := by
  have hl : a.length ≤ 1048576 := by simp only [qfh] at h; omega
  unfold qgI
  exact Ev.bindN (qgY (by omega)) (Ev.bind (b := (a, (a.length : Int))) (qhy (cp := qgz) (fun x hx => qrf (by have := qcd (wt := fun x : qB => qe2 x) hx; simp only [qfh] at h; omega))
    (fun acc n => by simp only [qdF, qu (Nat.le_refl _), cond_false])
    (fun acc n j x y hx hy => by
      have hj := (List.getElem?_eq_some_iff.1 hx).1
      simp only [qdF, qt hj, cond_true, qam hx, qam hy, Option.bind_some, qq (show j < 9223372036854775807 by omega)])) .done)

theorem qoM {a : qz} (h : qdW a ≤ 1048576) : Ev (fun n => qfJ n a) a := by
  unfold qfJ
  simp only [qdW] at h
  exact Ev.bind (qqM (a := a.Cells) (by omega)) (.done)

theorem qnO {a : qk} (h : qbH a ≤ 1048576) : Ev (fun n => qet n a) a := by
  unfold qet
  simp only [qbH] at h
  exact Ev.bind (qeq (a := a.Nets) (by omega)) (.done)

theorem qni {a : (List qk)} (h : qbV a ≤ 1048576) : Ev (fun n => qe4 n a) a := by
  have hl : a.length ≤ 1048576 := by simp only [qbV] at h; omega
  unfold qe4
  exact Ev.bindN (qgY (by omega)) (Ev.bind (b := (a, (a.length : Int))) (qhy (cp := qet) (fun x hx => qnO (by have := qcd (wt := fun x : qk => qbH x) hx; simp only [qbV] at h; omega))
    (fun acc n => by simp only [qcc, qu (Nat.le_refl _), cond_false])
    (fun acc n j x y hx hy => by
      have hj := (List.getElem?_eq_some_iff.1 hx).1
      simp only [qcc, qt hj, cond_true, qam hx, qam hy, Option.bind_some, qq (show j < 9223372036854775807 by omega)])) .done)

theorem qoS {a : (List ByteArray)} (h : qdZ a ≤ 1048576) : Ev (fun n => qfK n a) a := by
  have hl : a.length ≤ 1048576 := by simp only [qdZ] at h; omega
  unfold qfK
  exact Ev.bindN (qgY (by omega)) (Ev.bind (b := (a, (a.length : Int))) (qhy (cp := fun _ x => some x) (fun _ _ => .done)
    (fun acc n => by simp only [qcM, qu (Nat.le_refl _), cond_false])
    (fun acc n j x y hx hy => by
      have hj := (List.getElem?_eq_some_iff.1 hx).1
      simp only [qcM, qt hj, cond_true, qam hx, qam hy, Option.bind_some, qq (show j < 9223372036854775807 by omega)])) .done)

theorem qrk {a : qV} (_ : qgo a ≤ 1048576) : Ev (fun n => qgv n a) a := by
  unfold qgv
  exact .done

theorem qp7 {a : (List qV)} (h : qfi a ≤ 1048576) : Ev (fun n => qgK n a) a := by
  have hl : a.length ≤ 1048576 := by simp only [qfi] at h; omega
  unfold qgK
  exact Ev.bindN (qgY (by omega)) (Ev.bind (b := (a, (a.length : Int))) (qhy (cp := qgv) (fun x hx => qrk (by have := qcd (wt := fun x : qV => qgo x) hx; simp only [qfi] at h; omega))
    (fun acc n => by simp only [qdI, qu (Nat.le_refl _), cond_false])
    (fun acc n j x y hx hy => by
      have hj := (List.getElem?_eq_some_iff.1 hx).1
      simp only [qdI, qt hj, cond_true, qam hx, qam hy, Option.bind_some, qq (show j < 9223372036854775807 by omega)])) .done)

theorem qpF {a : ql} (h : qeg a ≤ 1048576) : Ev (fun n => qga n a) a := by
  unfold qga
  simp only [qeg] at h
  exact Ev.bind (qni (a := a.Instances) (by omega)) (Ev.bind (qoS (a := a.Nets) (by omega)) (Ev.bind (qp7 (a := a.Ports) (by omega)) (.done)))

theorem qq3 {a : qP} (h : qe9 a ≤ 1048576) : Ev (fun n => qgB n a) a := by
  unfold qgB
  simp only [qe9] at h
  exact Ev.bind (qeq (a := a.Parent) (by omega)) (Ev.bind (qeq (a := a.Res) (by omega)) (Ev.bind (qeq (a := a.Cap) (by omega)) (Ev.bind (qeq (a := a.Sink) (by omega)) (.done))))

theorem qqz {a : (List qP)} (h : qfm a ≤ 1048576) : Ev (fun n => qgU n a) a := by
  have hl : a.length ≤ 1048576 := by simp only [qfm] at h; omega
  unfold qgU
  exact Ev.bindN (qgY (by omega)) (Ev.bind (b := (a, (a.length : Int))) (qhy (cp := qgB) (fun x hx => qq3 (by have := qcd (wt := fun x : qP => qe9 x) hx; simp only [qfm] at h; omega))
    (fun acc n => by simp only [qdG, qu (Nat.le_refl _), cond_false])
    (fun acc n j x y hx hy => by
      have hj := (List.getElem?_eq_some_iff.1 hx).1
      simp only [qdG, qt hj, cond_true, qam hx, qam hy, Option.bind_some, qq (show j < 9223372036854775807 by omega)])) .done)

theorem qkJ {a : qF} (h : qff a ≤ 1048576) : Ev (fun n => qeF n a) a := by
  unfold qeF
  simp only [qff] at h
  exact Ev.bind (qoM (a := a.Library) (by omega)) (Ev.bind (qpF (a := a.Design) (by omega)) (Ev.bind (qqz (a := a.Wires) (by omega)) (.done)))

end Go.Fw


namespace Go.Fw
open Go
set_option maxRecDepth 100000


theorem qeJ {n : Nat} {x lo hi : Int} : qas n x lo hi = some (inI x lo hi) := by
  simp only [qas, qju, qkG]; rfl
theorem qd4 {n : Nat} {x lo hi : Int} : qaN n x lo hi = some (inI x lo hi) := by
  simp only [qaN, qju, qkG]; rfl

/-! ### Names -/

/-- The byte at a place, as a number. -/
def bt (s : ByteArray) (j : Nat) : Nat := (s.data.toList.getD j 0).toNat
theorem qqy {s : ByteArray} {j : Nat} (h : j < s.size) : atS s (j : Int) = some (bt s j : Int) := by
  have h' : j < s.data.size := h
  have hl : j < s.data.toList.length := by simpa using h'
  unfold atS
  rw [if_pos (by omega), Int.toNat_natCast]
  have : s[j]? = some (s.data.toList.getD j 0) := by
    rw [getElem?_pos s j h, List.getD_eq_getElem?_getD, List.getElem?_eq_getElem hl]
    rfl
  rw [this]
  rfl

def letB (b : Nat) : Bool := decide (97 ≤ b) && decide (b ≤ 122)
def digB (b : Nat) : Bool := decide (48 ≤ b) && decide (b ≤ 57)
def chB (s : ByteArray) (j : Nat) : Bool := letB (bt s j) || digB (bt s j) && decide (0 < j)
def nameB (s : ByteArray) : Bool := (decide (1 ≤ s.size) && decide (s.size ≤ 8)) && allN (chB s) s.size

theorem qkb {s : ByteArray} (h : okS s) : Ev (fun n => qfd n s) (nameB s) := by
  unfold okS at h
  have hL : Ev (fun n => qct s n 0) (bif allN (chB s) s.size then .nxt (s.size : Int) else .ret false) := by
    refine qeP ?_ (fun j hj X hX => ?_)
    · exact Ev.succ (by simp only [qct, qu (Nat.le_refl _), cond_false]; exact .done)
    · refine Ev.succ ?_
      simp only [qct, qt hj, cond_true, qqy hj, Option.bind_some, qju, qkG, qq (show j < 9223372036854775807 by omega)]
      have e1 : (decide ((bt s j : Int) ≥ 97) && decide ((bt s j : Int) ≤ 122)) = letB (bt s j) := by unfold letB; rw [Bool.eq_iff_iff]; simp; omega
      have e2 : (decide ((bt s j : Int) ≥ 48) && decide ((bt s j : Int) ≤ 57)) = digB (bt s j) := by unfold digB; rw [Bool.eq_iff_iff]; simp; omega
      have e3 : decide ((j : Int) > 0) = decide (0 < j) := by rw [Bool.eq_iff_iff]; simp
      rw [e1, e2, e3]
      unfold chB
      cases letB (bt s j) <;> cases digB (bt s j) <;> cases decide (0 < j) <;> first | exact hX | exact .done
  unfold qfd
  refine Ev.cast (r := bif allN (chB s) s.size then (decide (1 ≤ s.size) && decide (s.size ≤ 8)) else false) (Ev.bindB hL (fun _ => ?_) (fun _ => .done)) ?_
  · simp only [qju, qkG]
    exact Ev.now (by congr 1; rw [Bool.eq_iff_iff]; simp; omega)
  · unfold nameB
    cases allN (chB s) s.size <;> simp

def cutset : List UInt8 := [97, 98, 99, 100, 101, 102, 103, 104, 105, 106, 107, 108, 109, 110, 111, 112, 113, 114, 115, 116, 117, 118, 119, 120, 121, 122, 48, 49, 50, 51, 52, 53, 54, 55, 56, 57]
theorem qlL (b : UInt8) : cutset.contains b = (letB b.toNat || digB b.toNat) := by
  have h0 : (List.range 256).all (fun m => cutset.contains (UInt8.ofNat m) == (letB (UInt8.ofNat m).toNat || digB (UInt8.ofNat m).toNat)) = true := by kernel_rfl
  have h := List.all_eq_true.1 h0 b.toNat (List.mem_range.2 b.toNat_lt)
  rw [beq_iff_eq] at h
  simpa using h
def letters : List UInt8 := [97, 98, 99, 100, 101, 102, 103, 104, 105, 106, 107, 108, 109, 110, 111, 112, 113, 114, 115, 116, 117, 118, 119, 120, 121, 122]
theorem qo0 (m : Nat) (hm : m < 256) : decide ((Lib.indexByte letters m.toUInt8) ≥ 0) = letB m := by
  have h0 : (List.range 256).all (fun m => decide ((Lib.indexByte letters m.toUInt8) ≥ 0) == letB m) = true := by kernel_rfl
  have h := List.all_eq_true.1 h0 m (List.mem_range.2 hm)
  rwa [beq_iff_eq] at h

theorem qmF {α : Type} {p : α → Bool} {l : List α} : l.dropWhile p = [] ↔ ∀ x, x ∈ l → p x = true := by
  induction l with
  | nil => simp
  | cons y l ih =>
    rw [List.dropWhile_cons]
    by_cases h : p y = true
    · rw [if_pos h, ih]; simp [h]
    · rw [if_neg h]; simp [h]

theorem qmr {α : Type} {p : α → Bool} {l : List α} (h : ∀ x, x ∈ l.dropWhile p → p x = true) : ∀ x, x ∈ l → p x = true := by
  induction l with
  | nil => simp
  | cons y l ih =>
    rw [List.dropWhile_cons] at h
    by_cases hy : p y = true
    · rw [if_pos hy] at h
      intro x hx
      rcases List.mem_cons.1 hx with rfl | hx
      · exact hy
      · exact ih h x hx
    · rw [if_neg hy] at h
      exact h

theorem qqp {l cs : List UInt8} : Lib.trimS l cs = [] ↔ ∀ x, x ∈ l → cs.contains x = true := by
  unfold Lib.trimS Lib.trimRightS Lib.trimLeftS
  rw [qmF]
  constructor
  · intro h x hx
    exact qmr (p := (cs.contains ·)) (l := l.reverse) (fun y hy => h y (List.mem_reverse.2 hy)) x (List.mem_reverse.2 hx)
  · intro h x hx
    exact h x (List.mem_reverse.1 ((List.dropWhile_suffix _).subset (List.mem_reverse.1 hx)))

theorem qge {a b : ByteArray} : (a.toList == b.toList) = decide (a = b) := by
  rw [Bool.eq_iff_iff, beq_iff_eq, decide_eq_true_iff]
  constructor
  · intro h
    exact ByteArray.ext (by have := congrArg List.toArray h; simpa [ByteArray.toList_eq] using this)
  · rintro rfl; rfl
end Go.Fw


namespace Go.Fw
open Go
set_option maxRecDepth 100000

theorem qrC {s : ByteArray} {j : Nat} (h : j < s.data.toList.length) : bt s j = (s.data.toList[j]).toNat := by
  unfold bt; rw [List.getD_eq_getElem?_getD, List.getElem?_eq_getElem h]; rfl
theorem qrT {s : ByteArray} {j : Nat} : bt s j < 256 := UInt8.toNat_lt _

theorem qmV {n : Nat} {s : ByteArray} (h : okS s) : qgE n s = some (nameB s) := by
  unfold okS at h
  have hl : s.data.toList.length = s.size := by simp
  simp only [qgE, qd4, Option.bind_some]
  cases hI : inI (s.size : Int) 1 8 with
  | false =>
    have hs : (decide (1 ≤ s.size) && decide (s.size ≤ 8)) = false := by rw [qp3] at hI; rw [Bool.and_eq_false_iff, decide_eq_false_iff_not, decide_eq_false_iff_not]; omega
    simp [nameB, hs]
  | true =>
    have hs : 1 ≤ s.size ∧ s.size ≤ 8 := by rw [qdT] at hI; omega
    have hT : qg3 n s (⟨#[97, 98, 99, 100, 101, 102, 103, 104, 105, 106, 107, 108, 109, 110, 111, 112, 113, 114, 115, 116, 117, 118, 119, 120, 121, 122, 48, 49, 50, 51, 52, 53, 54, 55, 56, 57]⟩ : ByteArray) = some ⟨(Lib.trimS s.data.toList cutset).toArray⟩ := by
      unfold qg3
      rw [if_pos ⟨by omega, by decide, by decide⟩]
      rfl
    rw [hT]
    simp only [cond_true, Option.bind_some]
    have hE : (((⟨(Lib.trimS s.data.toList cutset).toArray⟩ : ByteArray).toList == (⟨#[]⟩ : ByteArray).toList)) = allN (fun j => letB (bt s j) || digB (bt s j)) s.size := by
      rw [qge, Bool.eq_iff_iff, decide_eq_true_iff, qbh]
      have : ((⟨(Lib.trimS s.data.toList cutset).toArray⟩ : ByteArray) = ⟨#[]⟩) ↔ Lib.trimS s.data.toList cutset = [] := by
        constructor
        · intro he
          have := congrArg (fun x : ByteArray => x.data.toList) he
          simpa using this
        · intro he; rw [he]
      rw [this, qqp]
      constructor
      · intro hx j hj
        have hj' : j < s.data.toList.length := by omega
        have := hx _ (List.getElem_mem hj')
        rw [qlL, ← qrC hj'] at this
        exact this
      · intro hx x hm
        obtain ⟨j, hj, rfl⟩ := List.getElem_of_mem hm
        have := hx j (by omega)
        rw [qlL, ← qrC hj]
        exact this
    rw [hE]
    have h0 : atS s 0 = some (bt s 0 : Int) := qqy (j := 0) (by omega)
    have hI2 : decide (Lib.indexByte letters (bt s 0 : Int).toNat.toUInt8 ≥ 0) = letB (bt s 0) := by
      rw [Int.toNat_natCast]; exact qo0 _ qrT
    have hF : ∀ b : Bool, (bif b then (atS s 0).bind fun y1 => (qfB n (⟨#[97, 98, 99, 100, 101, 102, 103, 104, 105, 106, 107, 108, 109, 110, 111, 112, 113, 114, 115, 116, 117, 118, 119, 120, 121, 122]⟩ : ByteArray) (⟨y1⟩ : IntK .u8)).bind fun r3 => some (decide (r3 ≥ 0)) else some false) = some (b && letB (bt s 0)) := by
      intro b
      cases b with
      | false => rfl
      | true =>
        rw [h0]
        simp only [cond_true, Option.bind_some, qfB, Bool.true_and]
        exact congrArg some hI2
    rw [hF]
    congr 1
    have hs' : (decide (1 ≤ s.size) && decide (s.size ≤ 8)) = true := by simp [hs]
    unfold nameB
    rw [hs', Bool.true_and, Bool.eq_iff_iff, Bool.and_eq_true, qbh, qbh]
    simp only [chB, Bool.or_eq_true, Bool.and_eq_true, decide_eq_true_eq]
    constructor
    · rintro ⟨h1, h2⟩ j hj
      rcases Nat.eq_zero_or_pos j with rfl | hp
      · exact .inl h2
      · exact (h1 j hj).imp id (fun h => ⟨h, hp⟩)
    · intro h1
      refine ⟨fun j hj => (h1 j hj).imp id (fun h => h.1), ?_⟩
      rcases h1 0 (by omega) with h2 | h2
      · exact h2
      · omega

/-! ### Lists of names -/

def strAt (xs : List ByteArray) (j : Nat) : ByteArray := xs.getD j ByteArray.empty
theorem qks {xs : List ByteArray} {j : Nat} (h : j < xs.length) : strAt xs j = xs[j] := by simp [strAt, h]
theorem qlH {xs : List ByteArray} {j : Nat} (h : j < xs.length) : idx xs (j : Int) = some (strAt xs j) := by rw [qgN h, qks h]
def neB (xs : List ByteArray) (j i : Nat) : Bool := !decide (strAt xs i = strAt xs j)
def namesB (xs : List ByteArray) : Bool := allN (fun j => nameB (strAt xs j) && allN (neB xs j) j) xs.length

theorem qjo {xs : List ByteArray} (h : okL okS xs) : Ev (fun n => qeM n xs) (namesB xs) := by
  have hl := h.len
  have hL2 : ∀ j, j < xs.length → Ev (fun n => qcy xs (j : Int) n 0) (bif allN (neB xs j) j then .nxt (j : Int) else .ret false) := by
    intro j hj
    refine qeP ?_ (fun i hi X hX => Ev.succ ?_)
    · exact Ev.succ (by simp only [qcy, qu (Nat.le_refl _), cond_false]; exact .done)
    · simp only [qcy, qt hi, cond_true, qlH (show i < xs.length by omega), qlH hj, Option.bind_some, qge, qq (show i < 9223372036854775807 by omega)]
      unfold neB
      cases decide (strAt xs i = strAt xs j)
      · exact hX
      · exact .done
  have hL1 : Ev (fun n => qcG xs n 0) (bif namesB xs then .nxt (xs.length : Int) else .ret false) := by
    refine qeP ?_ (fun j hj X hX => Ev.succ ?_)
    · exact Ev.succ (by simp only [qcG, qu (Nat.le_refl _), cond_false]; exact .done)
    · simp only [qcG, qt hj, cond_true, qlH hj, Option.bind_some, qq (show j < 9223372036854775807 by omega)]
      refine Ev.bind (qkb (by rw [qks hj]; exact h.at hj)) ?_
      cases nameB (strAt xs j)
      · exact .done
      · refine Ev.ff rfl (Ev.bind (hL2 j hj) ?_)
        cases allN (neB xs j) j
        · exact .done
        · exact hX
  unfold qeM
  refine Ev.bind hL1 ?_
  cases namesB xs <;> exact .done

theorem qoa {xs : List ByteArray} {v : ByteArray} (hl : xs.length ≤ 1048576) : Ev (fun n => qdP n xs v) (ixL (fun x => decide (v = x)) xs) :=
  qfN (fin := (xs.length : Int)) (Lf := qbe xs v) (pf := fun _ x => some (decide (v = x))) (fun _ _ => .done)
    (fun n => by simp only [qbe, qu (Nat.le_refl _), cond_false])
    (fun n j x hx => by
      have hj := (List.getElem?_eq_some_iff.1 hx).1
      simp only [qbe, qt hj, cond_true, qam hx, Option.bind_some, qge, qq (show j < 9223372036854775807 by omega)])
    (fun n => by unfold qdP; congr 1; funext o; cases o <;> rfl)

theorem qmg {xs : List ByteArray} {v : ByteArray} (hl : xs.length ≤ 1048576) : Ev (fun n => qcP n xs v) (xs.any fun x => decide (v = x)) := by
  unfold qcP
  exact Ev.bind (qoa hl) (Ev.now (by rw [qix]))

theorem qhS {xs : List ByteArray} (h : okL okS xs) : Ev (fun n => qdq n xs) (namesB xs) := by
  have hl := h.len
  have hL1 : Ev (fun n => qcz xs n 0) (bif namesB xs then .nxt (xs.length : Int) else .ret false) := by
    refine qeP ?_ (fun j hj X hX => Ev.succ ?_)
    · exact Ev.succ (by simp only [qcz, qu (Nat.le_refl _), cond_false]; exact .done)
    · have hs : subS xs 0 (j : Int) = some (xs.take j) := by
        unfold subS
        rw [if_pos ⟨by omega, by omega, by omega⟩]
        simp
      simp only [qcz, qt hj, cond_true, qlH hj, Option.bind_some, hs, qmV (show okS (strAt xs j) by rw [qks hj]; exact h.at hj), qq (show j < 9223372036854775807 by omega)]
      cases nameB (strAt xs j)
      · exact .done
      · refine Ev.ff rfl (Ev.bind (qmg (by simp; omega)) ?_)
        have : ((xs.take j).any fun x => decide (strAt xs j = x)) = !allN (neB xs j) j := by
          rw [qnP (d := ByteArray.empty)]
          congr 1
          rw [List.length_take, Nat.min_eq_left (by omega)]
          refine qgp (fun i hi => ?_)
          unfold neB strAt
          congr 1
          have : (xs.take j).getD i ByteArray.empty = xs.getD i ByteArray.empty := by simp [List.getD_eq_getElem?_getD, hi]
          rw [this]
          exact decide_eq_decide.2 eq_comm
        rw [this]
        cases allN (neB xs j) j
        · exact .done
        · exact hX
  unfold qdq
  refine Ev.bind hL1 ?_
  cases namesB xs <;> exact .done
end Go.Fw


namespace Go.Fw
open Go
set_option maxRecDepth 100000

theorem qms {n : Nat} {x lo hi : Int} : qe0 n x lo hi = some (!inI x lo hi) := by simp only [qe0, qd4, Option.bind_some]

theorem qfa {xs : List Int} {lo hi : Int} (hl : xs.length ≤ 1048576) : Ev (fun n => qbx n xs lo hi) (xs.all fun x => inI x lo hi) := by
  have h1 : Ev (fun n => qaA n xs lo hi) (ixL (fun x => !inI x lo hi) xs) :=
    qfN (fin := (xs.length : Int)) (Lf := qQ xs lo hi) (pf := fun _ x => some (!inI x lo hi)) (fun _ _ => .done)
      (fun n => by simp only [qQ, qu (Nat.le_refl _), cond_false])
      (fun n j x hx => by
        have hj := (List.getElem?_eq_some_iff.1 hx).1
        simp only [qQ, qt hj, cond_true, qam hx, Option.bind_some, qms, qq (show j < 9223372036854775807 by omega)])
      (fun n => by unfold qaA; congr 1; funext o; cases o <;> rfl)
  unfold qbx qaR
  refine Ev.bind (Ev.bind h1 (Ev.now rfl)) (Ev.now ?_)
  rw [qix, qkL]

def stepB (xs : List Int) (j : Nat) : Bool := decide (j = 0) || decide (at0 xs (j - 1) < at0 xs j)
def incB (xs : List Int) : Bool := allN (stepB xs) xs.length

theorem qhT {xs : List Int} (hl : xs.length ≤ 1048576) : Ev (fun n => qcL n xs) (incB xs) := by
  have hL : Ev (fun n => qaT xs n 1) (bif incB xs then .nxt (max 1 xs.length : Int) else .ret false) := by
    by_cases h0 : xs.length = 0
    · have hb : incB xs = true := by unfold incB; rw [h0]; rfl
      rw [hb]
      refine Ev.succ ?_
      have : decide ((1 : Int) < (xs.length : Int)) = false := by rw [h0]; decide
      simp only [qaT, this, cond_false]
      exact Ev.now (by rw [h0]; rfl)
    · have := qpg (Lf := qaT xs) (len := xs.length) (i0 := 1) (f := stepB xs) (bad := false) (fin := .nxt (max 1 xs.length : Int)) (by omega)
        (Ev.succ (by
          simp only [qaT, qu (Nat.le_refl _), cond_false]
          exact Ev.now (by congr 2; omega)))
        (fun j h1 hj X hX => Ev.succ (by
          simp only [qaT, qt hj, cond_true, qq (show j < 9223372036854775807 by omega), show (j : Int) - 1 = ((j - 1 : Nat) : Int) by omega, qbo (show -9223372036854775808 ≤ ((j - 1 : Nat) : Int) by omega) (by omega), qb9 (show j - 1 < xs.length by omega), qb9 hj, Option.bind_some]
          unfold stepB
          by_cases hc : at0 xs (j - 1) < at0 xs j
          · have e1 : decide (at0 xs (j - 1) ≥ at0 xs j) = false := by simp; omega
            rw [e1]; simp only [hc, decide_true, Bool.or_true, cond_true, cond_false]; exact hX
          · have e1 : decide (at0 xs (j - 1) ≥ at0 xs j) = true := by simp; omega
            have e2 : decide (j = 0) = false := by simp; omega
            rw [e1, e2]; simp only [hc, decide_false, Bool.or_self, cond_true, cond_false]; exact .done))
      have e : allN (fun j => stepB xs (1 + j)) (xs.length - 1) = incB xs := by
        unfold incB
        rw [Bool.eq_iff_iff, qbh, qbh]
        constructor
        · intro h j hj
          cases j with
          | zero => rfl
          | succ j => have := h j (by omega); rwa [Nat.add_comm] at this
        · intro h j hj
          exact h (1 + j) (by omega)
      rw [e] at this
      exact this
  unfold qcL
  refine Ev.bind hL ?_
  cases incB xs <;> exact .done

def lenB {α : Type} (xs : List α) (lo hi : Nat) : Bool := decide (lo ≤ xs.length) && decide (xs.length ≤ hi)
theorem qnF {α : Type} {xs : List α} {lo hi : Nat} : inI (xs.length : Int) (lo : Int) (hi : Int) = lenB xs lo hi := by
  unfold inI lenB; rw [Bool.eq_iff_iff]; simp
def axisB (xs : List Int) : Bool := lenB xs 1 4 && ((xs.all fun x => inI x 0 100000) && incB xs)

theorem qmS {xs : List Int} (hl : xs.length ≤ 1048576) : Ev (fun n => qgC n xs) (axisB xs) := by
  simp only [qgC, qaH, Option.bind_some, qd4, show inI (xs.length : Int) 1 4 = lenB xs 1 4 from qnF (lo := 1) (hi := 4)]
  unfold axisB
  cases lenB xs 1 4
  · exact .done
  · refine Ev.tt rfl (Ev.bind (qfa hl) ?_)
    cases (xs.all fun x => inI x 0 100000)
    · exact .done
    · exact Ev.tt rfl (Ev.bind (qhT hl) .done)

theorem qlQ {xs : List Int} (hl : xs.length ≤ 1048576) : Ev (fun n => qf0 n xs) (axisB xs) := by
  have hL : Ev (fun n => qcu xs n 0) (bif allN (fun j => inI (at0 xs j) 0 100000 && stepB xs j) xs.length then .nxt (xs.length : Int) else .ret false) := by
    refine qeP ?_ (fun j hj X hX => Ev.succ ?_)
    · exact Ev.succ (by simp only [qcu, qu (Nat.le_refl _), cond_false]; exact .done)
    · simp only [qcu, qt hj, cond_true, qb9 hj, Option.bind_some, qeJ, qq (show j < 9223372036854775807 by omega)]
      cases inI (at0 xs j) 0 100000
      · exact .done
      · simp only [Bool.not_true, cond_false, Bool.true_and]
        unfold stepB
        by_cases h0 : j = 0
        · subst h0
          exact Ev.ff (by decide) hX
        · simp only [show (j : Int) - 1 = ((j - 1 : Nat) : Int) by omega, qbo (show -9223372036854775808 ≤ ((j - 1 : Nat) : Int) by omega) (by omega), qb9 (show j - 1 < xs.length by omega), Option.bind_some]
          have e2 : decide (j = 0) = false := by simp; omega
          have e3 : decide ((j : Int) > 0) = true := by simp; omega
          rw [e2, e3]
          simp only [cond_true, Bool.false_or]
          by_cases hc : at0 xs (j - 1) < at0 xs j
          · have e1 : decide (at0 xs (j - 1) ≥ at0 xs j) = false := by simp; omega
            rw [e1]; simp only [hc, decide_true, cond_true, cond_false]; exact hX
          · have e1 : decide (at0 xs (j - 1) ≥ at0 xs j) = true := by simp; omega
            rw [e1]; simp only [hc, decide_false, cond_true, cond_false]; exact .done
  have e : axisB xs = (allN (fun j => inI (at0 xs j) 0 100000 && stepB xs j) xs.length && lenB xs 1 4) := by
    unfold axisB incB
    rw [qiN, qg1 (d := 0), Bool.and_comm]
    rfl
  rw [e]
  unfold qf0
  refine Ev.bind hL ?_
  cases allN (fun j => inI (at0 xs j) 0 100000 && stepB xs j) xs.length
  · exact .done
  · simp only [cond_true, qju, qkG, Bool.true_and]
    exact Ev.now (by congr 1; unfold lenB; rw [Bool.eq_iff_iff]; simp; omega)

def tableB (t : qC) : Bool := axisB t.Slews && (axisB t.Loads && (decide (t.Values.length = t.Slews.length * t.Loads.length) && (t.Values.all fun x => inI x (-1000000) 1000000)))

theorem qpj {a b : Nat} (ha : a ≤ 1048576) (hb : b ≤ 1048576) : W64 ((a : Int) * (b : Int)) = ((a * b : Nat) : Int) := by
  have h : a * b ≤ 1048576 * 1048576 := Nat.mul_le_mul ha hb
  have e : (a : Int) * (b : Int) = ((a * b : Nat) : Int) := by simp
  rw [e]
  exact qbo (by omega) (by omega)

theorem qoA {t : qC} (h : qg9 t) : Ev (fun n => qg8 n t) (tableB t) := by
  unfold qg8 tableB
  refine Ev.bind (qmS h.Slews.len) ?_
  cases axisB t.Slews
  · exact .done
  · refine Ev.tt rfl (Ev.bind (qmS h.Loads.len) ?_)
    cases axisB t.Loads
    · exact .done
    · rw [qpj h.Slews.len h.Loads.len]
      have e : (((t.Values.length : Nat) : Int) == ((t.Slews.length * t.Loads.length : Nat) : Int)) = decide (t.Values.length = t.Slews.length * t.Loads.length) := by rw [Bool.eq_iff_iff]; simp; omega
      rw [e]
      cases decide (t.Values.length = t.Slews.length * t.Loads.length)
      · exact .done
      · exact Ev.tt rfl (Ev.tt rfl (Ev.bind (qfa h.Values.len) .done))

theorem qog {t : qC} (h : qg9 t) : Ev (fun n => qhd n t) (tableB t) := by
  have hl := h.Values.len
  have hL : Ev (fun n => qcW t n 0) (bif (t.Values.all fun x => inI x (-1000000) 1000000) then .nxt (t.Values.length : Int) else .ret false) :=
    qkF (fun n => by simp only [qcW, qu (Nat.le_refl _), cond_false]) (fun j hj X hX => by
      simp only [qcW, qt hj, cond_true, qgN hj, Option.bind_some, qeJ, qq (show j < 9223372036854775807 by omega)]
      cases inI t.Values[j] (-1000000) 1000000
      · exact .done
      · exact hX)
  unfold qhd tableB
  refine Ev.bind (b := !(axisB t.Slews && (axisB t.Loads && decide (t.Values.length = t.Slews.length * t.Loads.length)))) ?_ ?_
  · refine Ev.bind (qlQ h.Slews.len) ?_
    cases axisB t.Slews
    · exact .done
    · refine Ev.ff rfl (Ev.bind (qlQ h.Loads.len) ?_)
      cases axisB t.Loads
      · exact .done
      · refine Ev.ff rfl (Ev.now ?_)
        rw [qpj h.Slews.len h.Loads.len]
        congr 1
        rw [Bool.eq_iff_iff]; simp; omega
  · cases axisB t.Slews
    · exact .done
    · cases axisB t.Loads
      · exact .done
      · cases decide (t.Values.length = t.Slews.length * t.Loads.length)
        · exact .done
        · refine Ev.ff rfl (Ev.bind hL ?_)
          cases (t.Values.all fun x => inI x (-1000000) 1000000) <;> exact .done
end Go.Fw


namespace Go.Fw
open Go
set_option maxRecDepth 100000

instance : Inhabited qaf := ⟨⟨ByteArray.empty, 0, 0, false⟩⟩
instance : Inhabited qC := ⟨⟨[], [], []⟩⟩
instance : Inhabited qY := ⟨⟨0, 0, 0, 0, [], []⟩⟩
instance : Inhabited qB := ⟨⟨ByteArray.empty, 0, [], [], [], 0, 0⟩⟩
instance : Inhabited qk := ⟨⟨ByteArray.empty, 0, []⟩⟩
instance : Inhabited qV := ⟨⟨ByteArray.empty, 0, 0⟩⟩
instance : Inhabited qP := ⟨⟨[], [], [], []⟩⟩

theorem lastE {j m : Nat} (h : j < m) (hm : m ≤ 1048576) : ((j : Int) == W64 ((m : Int) - 1)) = decide (j + 1 = m) := by
  rcases qrt h with h | h
  · exact h
  · omega
theorem qh7 {α : Type} [Inhabited α] {xs : List α} {g : α → ByteArray} {j : Nat} (h : j < xs.length) : strAt (xs.map g) j = g (gt xs j) := by
  rw [qks (by simpa using h), qjh h]; simp
/-- Names that differ, by the list that they are taken from. -/
theorem qjN {α : Type} {xs : List α} {g : α → ByteArray} {ok : α → Prop} (h : okL ok xs) (hg : ∀ x, ok x → okS (g x)) : okL okS (xs.map g) :=
  ⟨by rw [List.length_map]; exact h.1, fun y hy => by
    obtain ⟨x, hx, rfl⟩ := List.mem_map.1 hy
    exact hg x (h.2 x hx)⟩
theorem qiA {α β : Type} {xs : List α} {g : α → β} {j : Nat} (h : j < xs.length) (hl : xs.length ≤ 1048576) {y : β} : appS ((xs.take j).map g) [y] = some ((xs.take j).map g ++ [y]) :=
  qeI (by simp; omega)

/-! ### Pins -/

def pinB (ps : List qaf) (j : Nat) : Bool :=
  bif decide (j + 1 = ps.length) then ((gt ps j).Dir == 2) && (((gt ps j).Cap == 0) && !(gt ps j).Clock) else ((gt ps j).Dir == 1) && inI (gt ps j).Cap 0 500
def pinsB (ps : List qaf) : Bool := allN (pinB ps) ps.length && (lenB ps 2 5 && namesB (ps.map qaf.Name))
def clkN (ps : List qaf) (j : Nat) : Nat := cntP (fun i => (gt ps i).Clock) j

theorem qpa {ps : List qaf} (h : okL qjz ps) : Ev (fun n => qha n ps) (pinsB ps) := by
  have hl := h.len
  have hL : Ev (fun n => qb2 ps n ([] : List ByteArray) 0) (bif allN (pinB ps) ps.length then .nxt (ps.map qaf.Name, (ps.length : Int)) else .ret false) := by
    refine loopN (Lf := qb2 ps) (S := fun j => (ps.take j).map qaf.Name) (pinB ps) (fun n => ?_) (fun j hj hp X hX => ?_)
    · simp only [qb2, qu (Nat.le_refl _), cond_false, List.take_length]
    · simp only [qb2, qt hj, cond_true, qaC hj, Option.bind_some, qiA hj hl, qfn (g := qaf.Name) hj, lastE hj hl, bne, qbO, qd4, qq (show j < 9223372036854775807 by omega)]
      generalize hc : pinB ps j = c at hX ⊢
      unfold pinB at hc
      cases hd : decide (j + 1 = ps.length)
      · rw [hd] at hc
        simp only [cond_false] at hc ⊢
        subst hc
        exact Ev.okP (fun h1 => Ev.okP1 (fun h2 => hX (by rw [h1, h2]; rfl)))
      · rw [hd] at hc
        simp only [cond_true] at hc ⊢
        subst hc
        refine Ev.okP (fun h1 => Ev.okP (fun h2 => Ev.chkP1 (fun h3 => hX (by rw [h1, h2, h3]; rfl))))
  unfold qha pinsB
  refine Ev.bind hL ?_
  cases allN (pinB ps) ps.length
  · exact .done
  · simp only [cond_true, qbP, qd4, Option.bind_some, show inI (ps.length : Int) 2 5 = lenB ps 2 5 from qnF (lo := 2) (hi := 5), Bool.true_and]
    exact Ev.andP (fun _ => Ev.last (qhS (qjN h (fun x hx => hx.Name))))

/-- A check of the reference, one pin. -/
def pinS (ps : List qaf) (j : Nat) : Bool := allN (neB (ps.map qaf.Name) j) j && ((nameB (gt ps j).Name && inI (gt ps j).Cap 0 500) && (bif decide (j + 1 = ps.length) then ((gt ps j).Dir == 2) && (((gt ps j).Cap == 0) && !(gt ps j).Clock) else ((gt ps j).Dir == 1)))

theorem qrq {ps : List qaf} : (lenB ps 2 5 && allN (pinS ps) ps.length) = pinsB ps := by
  have e : namesB (ps.map qaf.Name) = allN (fun j => nameB (gt ps j).Name && allN (neB (ps.map qaf.Name) j) j) ps.length := by
    unfold namesB
    rw [List.length_map]
    exact qgp (fun j hj => by rw [qh7 hj])
  unfold pinsB
  rw [e, ← Bool.and_assoc, Bool.and_comm (allN (pinB ps) ps.length), Bool.and_assoc, ← qiN]
  congr 1
  refine qgp (fun j hj => ?_)
  unfold pinS pinB
  cases hd : decide (j + 1 = ps.length)
  · simp only [cond_false]
    cases allN (neB (ps.map qaf.Name) j) j <;> cases nameB (gt ps j).Name <;> cases inI (gt ps j).Cap 0 500 <;> cases ((gt ps j).Dir == 1) <;> rfl
  · simp only [cond_true]
    cases hcap : ((gt ps j).Cap == 0)
    · simp
    · have : inI (gt ps j).Cap 0 500 = true := by rw [beq_iff_eq] at hcap; rw [hcap]; rfl
      rw [this]
      cases allN (neB (ps.map qaf.Name) j) j <;> cases nameB (gt ps j).Name <;> cases ((gt ps j).Dir == 2) <;> cases (gt ps j).Clock <;> rfl

theorem qoE {c : qB} (h : okL qjz c.Pins) : Ev (fun n => qgH n c) (bif pinsB c.Pins then (((clkN c.Pins c.Pins.length : Nat) : Int), true) else (0, false)) := by
  have hl := h.len
  have hL2 : ∀ j, j < c.Pins.length → Ev (fun n => qc1 c (j : Int) (gt c.Pins j) n 0) (bif allN (neB (c.Pins.map qaf.Name) j) j then .nxt (j : Int) else .ret (0, false)) := by
    intro j hj
    refine qeP ?_ (fun i hi X hX => Ev.succ ?_)
    · exact Ev.succ (by simp only [qc1, qu (Nat.le_refl _), cond_false]; exact .done)
    · simp only [qc1, qt hi, cond_true, qaC (show i < c.Pins.length by omega), Option.bind_some, qge, qq (show i < 9223372036854775807 by omega)]
      unfold neB
      rw [qh7 (g := qaf.Name) (show i < c.Pins.length by omega), qh7 (g := qaf.Name) hj]
      exact Ev.chkP1 (fun _ => hX)
  have hL1 : Ev (fun n => qbY c n 0 0) (bif allN (pinS c.Pins) c.Pins.length then .nxt (((clkN c.Pins c.Pins.length : Nat) : Int), (c.Pins.length : Int)) else .ret (0, false)) := by
    refine loopN (Lf := qbY c) (S := fun j => ((clkN c.Pins j : Nat) : Int)) (pinS c.Pins) (fun n => ?_) (fun j hj hp X hX => ?_)
    · simp only [qbY, qu (Nat.le_refl _), cond_false]
    · have hn : clkN c.Pins j ≤ j := qfC
      have ejl : ((j : Int) == W64 ((c.Pins.length : Int) - 1)) = decide (j + 1 = c.Pins.length) := lastE hj hl
      have elt : decide ((j : Int) < W64 ((c.Pins.length : Int) - 1)) = !decide (j + 1 = c.Pins.length) := by
        rw [qbo (by omega) (by omega), Bool.eq_iff_iff]; simp; omega
      simp only [qbY, qt hj, cond_true, qaC hj, Option.bind_some, qq (show j < 9223372036854775807 by omega), qq (show clkN c.Pins j < 9223372036854775807 by omega), ejl, elt, qeJ]
      unfold pinS
      refine Ev.bind (hL2 j hj) ?_
      cases ha : allN (neB (c.Pins.map qaf.Name) j) j
      · exact .done
      · simp only [cond_true, Bool.true_and]
        refine Ev.chkT ?_ (fun h1 => ?_)
        · exact Ev.or (qkb (qhX h hj).Name) (fun _ => .done)
        · refine Ev.chkT1 ?_ (fun h2 => ?_)
          · cases decide (j + 1 = c.Pins.length)
            · exact .done
            · simp only [cond_true, Bool.not_true, cond_false, bne, qbO]
              cases ((gt c.Pins j).Dir == 2) <;> cases ((gt c.Pins j).Cap == 0) <;> cases (gt c.Pins j).Clock <;> exact .done
          · have hX := hX (by unfold pinS; rw [ha, h1, h2]; rfl)
            have hck : clkN c.Pins (j + 1) = clkN c.Pins j + (bif (gt c.Pins j).Clock then 1 else 0) := rfl
            rw [hck] at hX
            cases hc : (gt c.Pins j).Clock
            · rw [hc] at hX; exact Ev.ff rfl hX
            · rw [hc] at hX; exact Ev.tt rfl hX
  rw [← qrq]
  unfold qgH
  refine Ev.guard ?_ (fun h1 => ?_)
  · unfold lenB
    have e1 : decide ((c.Pins.length : Int) < 2) = !decide (2 ≤ c.Pins.length) := by rw [Bool.eq_iff_iff]; simp; omega
    have e2 : decide ((c.Pins.length : Int) > 5) = !decide (c.Pins.length ≤ 5) := by rw [Bool.eq_iff_iff]; simp; omega
    rw [e1, e2]
    cases decide (2 ≤ c.Pins.length) <;> cases decide (c.Pins.length ≤ 5) <;> exact .done
  · refine Ev.bind hL1 ?_
    cases allN (pinS c.Pins) c.Pins.length <;> exact .done

/-! ### Lists of tables -/

def mnL (xs : List Int) : Int := (xs.drop 1).foldl (fun m y => if y < m then y else m) (at0 xs 0)
def mxL (xs : List Int) : Int := (xs.drop 1).foldl (fun m y => if y > m then y else m) (at0 xs 0)

theorem qmb {t : qC} (h : tableB t = true) : 1 ≤ t.Values.length := by
  unfold tableB axisB lenB at h
  simp only [Bool.and_eq_true, decide_eq_true_eq] at h
  obtain ⟨⟨⟨h1, _⟩, _⟩, ⟨⟨h2, _⟩, _⟩, h3, _⟩ := h
  rw [h3]
  exact Nat.mul_pos h1 h2

theorem qru {xs : List Int} (h1 : 1 ≤ xs.length) (hl : xs.length ≤ 1048576) : Ev (fun n => qe1 n xs) (mnL xs) := by
  have hL := (qnc (Lf := fun n t j => qbC xs n t j) (xs := xs) (step := fun (m y : Int) => if y < m then y else m) (fin := fun t => (t, (xs.length : Int))) 1 (at0 xs 0) (fun _ _ => True) h1 trivial (fun _ _ _ _ => trivial)
    (fun n t => by simp only [qbC, qu (Nat.le_refl _), cond_false])
    (fun j t hj _ X hX => by simpa only [qbC, qt hj, cond_true, qgN hj, Option.bind_some, qq (show j < 9223372036854775807 by omega)] using hX)).1
  unfold qe1
  rw [show decide ((xs.length : Int) < 1) = false by simp; omega, show idx xs (0 : Int) = some (at0 xs 0) from qb9 (j := 0) (by omega)]
  simp only [cond_false, Option.bind_some]
  exact Ev.bind hL .done

theorem qo1 {t : qC} (h : qg9 t) : Ev (fun n => qeY n t) (bif tableB t then (⟨mnL t.Values, mxL t.Values⟩, 0) else (⟨0, 0⟩, 1)) := by
  unfold qeY
  refine Ev.chk1 (qog h) (fun hb => ?_)
  have h1 := qmb hb
  have hl := h.Values.len
  have hL := (qnc (Lf := fun n (t' : Int × Int) j => qbD t n t'.1 t'.2 j) (xs := t.Values) (step := fun (m : Int × Int) y => (if y < m.1 then y else m.1, if y > m.2 then y else m.2)) (fin := fun t' => (t'.1, t'.2, (t.Values.length : Int))) 1 (at0 t.Values 0, at0 t.Values 0) (fun _ _ => True) h1 trivial (fun _ _ _ _ => trivial)
    (fun n t => by simp only [qbD, qu (Nat.le_refl _), cond_false])
    (fun j t hj _ X hX => by simpa only [qbD, qt hj, cond_true, qgN hj, Option.bind_some, qq (show j < 9223372036854775807 by omega)] using hX)).1
  have hf : ∀ (ys : List Int) (a b : Int), ys.foldl (fun (m : Int × Int) y => (if y < m.1 then y else m.1, if y > m.2 then y else m.2)) (a, b) = (ys.foldl (fun m y => if y < m then y else m) a, ys.foldl (fun m y => if y > m then y else m) b) := by
    intro ys
    induction ys with
    | nil => intro a b; rfl
    | cons y ys ih => intro a b; simp only [List.foldl_cons, ih]
  rw [hf] at hL
  rw [show idx t.Values (0 : Int) = some (at0 t.Values 0) from qb9 (j := 0) (by omega)]
  simp only [Option.bind_some]
  exact Ev.bind hL .done

def tabB (pos : Bool) (t : qC) : Bool := tableB t && (!pos || decide (0 ≤ mnL t.Values))
def tablesB (ts : List qC) (pos : Bool) : Bool := decide (ts.length = 2) && ts.all (tabB pos)

theorem qiW {ts : List qC} {pos : Bool} (h : okL qg9 ts) : Ev (fun n => qd7 n ts pos) (tablesB ts pos) := by
  have hl := h.len
  have h1 : Ev (fun n => qaj n ts pos) (ixL (fun x => !tabB pos x) ts) :=
    qfN (fin := (ts.length : Int)) (Lf := qL ts pos) (pf := fun n x => qe8 n x pos) (fun x hx => by
        unfold qe8 tabB
        refine Ev.or (qoA (h.2 x hx)) (fun hb => ?_)
        cases pos
        · exact .done
        · refine Ev.tt rfl (Ev.bind (qru (qmb hb) (h.2 x hx).Values.len) (Ev.now ?_))
          congr 1
          rw [Bool.eq_iff_iff]; simp)
      (fun n => by simp only [qL, qu (Nat.le_refl _), cond_false])
      (fun n j x hx => by
        have hj := (List.getElem?_eq_some_iff.1 hx).1
        simp only [qL, qt hj, cond_true, qam hx, Option.bind_some, qq (show j < 9223372036854775807 by omega)])
      (fun n => by unfold qaj; congr 1; funext o; cases o <;> rfl)
  unfold qd7 qaw tablesB
  rw [show ((ts.length : Int) == 2) = decide (ts.length = 2) by rw [Bool.eq_iff_iff]; simp; omega]
  refine Ev.andP (fun _ => Ev.bind (Ev.bind h1 (Ev.now rfl)) (Ev.now ?_))
  rw [qix, qkL]

theorem qhb {ts : List qC} {pos : Bool} (h : okL qg9 ts) : Ev (fun n => qcN n ts pos) (tablesB ts pos) := by
  unfold qcN tablesB
  rw [show ((ts.length : Int) != 2) = !decide (ts.length = 2) by rw [Bool.eq_iff_iff]; simp; omega]
  simp only [qbO]
  refine Ev.andP (fun h2 => ?_)
  have h2 : ts.length = 2 := by simpa using h2
  have hL : Ev (fun n => qbN ts pos n 0) (bif allN (fun j => tabB pos (gt ts j)) ts.length then .nxt (2 : Int) else .ret false) := by
    refine qeP (len := ts.length) ?_ (fun j hj X hX => Ev.succ ?_)
    · rw [h2]; exact Ev.succ (by simp only [qbN]; exact .done)
    · simp only [qbN, show decide ((j : Int) < 2) = true by simp; omega, cond_true, qaC hj, Option.bind_some, qq (show j < 9223372036854775807 by omega)]
      refine Ev.bind (qo1 (qhX h hj)) ?_
      unfold tabB
      cases tableB (gt ts j)
      · exact .done
      · simp only [cond_true, Bool.true_and]
        refine Ev.ff rfl ?_
        cases pos
        · exact hX
        · refine Ev.tt rfl ?_
          rw [show decide (mnL (gt ts j).Values < 0) = !decide (0 ≤ mnL (gt ts j).Values) by rw [Bool.eq_iff_iff]; simp]
          simp only [qbO]
          exact Ev.okP1 (fun _ => hX)
  rw [qhu]
  refine Ev.bind hL ?_
  cases allN (fun j => tabB pos (gt ts j)) ts.length <;> exact .done
end Go.Fw


namespace Go.Fw
open Go
set_option maxRecDepth 100000

theorem qhj {α : Type} [Inhabited α] {xs : List α} {x : Int} (h0 : 0 ≤ x) (h1 : x < xs.length) : idx xs x = some (gt xs x.toNat) := by
  have := qaC (xs := xs) (j := x.toNat) (by omega)
  rwa [← qo4 h0] at this
theorem qm2 {q : Nat → Bool} {m n : Nat} (h : m ≤ n) : cntP q m ≤ cntP q n := by
  induction n with
  | zero => obtain rfl : m = 0 := by omega
            exact Nat.le_refl _
  | succ n ih =>
    rcases Nat.lt_or_eq_of_le h with h | rfl
    · exact Nat.le_trans (ih (by omega)) (Nat.le_add_right _ _)
    · exact Nat.le_refl _
theorem qi2 {m k : Nat} : decide ((m : Int) ≤ (k : Int)) = decide (m ≤ k) := by rw [Bool.eq_iff_iff]; simp
theorem qnR {q : Nat → Bool} {n i j : Nat} (hi : i < j) (hj : j < n) (h1 : q i = true) (h2 : q j = true) : 2 ≤ cntP q n := by
  have e1 : cntP q (i + 1) = cntP q i + 1 := by rw [cntP, h1]; rfl
  have e2 : cntP q (j + 1) = cntP q j + 1 := by rw [cntP, h2]; rfl
  have m1 := qm2 (q := q) (show i + 1 ≤ j by omega)
  have m2 := qm2 (q := q) (show j + 1 ≤ n by omega)
  omega
theorem qqQ {q : Nat → Bool} {n i j : Nat} (hn : cntP q n ≤ 1) (hi : i < n) (hj : j < n) (h1 : q i = true) (h2 : q j = true) : i = j := by
  rcases Nat.lt_trichotomy i j with h | h | h
  · have := qnR h hj h1 h2; omega
  · exact h
  · have := qnR h hi h2 h1; omega

/-! ### Arcs -/

def clkIx (ps : List qaf) : Int := ixL (fun p => p.Clock) ps
def clkAt (ps : List qaf) (x : Int) : Bool := (gt ps x.toNat).Clock

theorem qqL {c : qB} (hl : c.Pins.length ≤ 1048576) : Ev (fun n => qfs n c) (clkIx c.Pins) := by
  unfold qfs
  refine Ev.bind (b := clkIx c.Pins) ?_ .done
  exact qfN (fin := (c.Pins.length : Int)) (Lf := qM c.Pins) (pf := fun n x => qfz n x) (fun _ _ => .done)
    (fun n => by simp only [qM, qu (Nat.le_refl _), cond_false])
    (fun n j x hx => by
      have hj := (List.getElem?_eq_some_iff.1 hx).1
      simp only [qM, qt hj, cond_true, qam hx, Option.bind_some, qq (show j < 9223372036854775807 by omega)])
    (fun n => by unfold qaO; congr 1; funext o; cases o <;> rfl)

def arcI (ps : List qaf) (a : qY) : Bool :=
  bif (a.Kind == 4) || (a.Kind == 5) then
    (a.Sense == 0) && (((a.Slew.length : Int) == 0) && (tablesB a.Delay false && ((a.From == clkIx ps) && (decide (a.From ≥ 0) && (inI a.To 0 (ps.length - 2) && !(a.To == a.From))))))
  else
    (tablesB a.Delay true && (tablesB a.Slew true && ((a.To == (ps.length : Int) - 1) && inI a.From 0 (ps.length - 2)))) &&
      (bif a.Kind == 1 then !clkAt ps a.From && inI a.Sense 1 3 else (bif (a.Kind == 2) || (a.Kind == 3) then clkAt ps a.From && (a.Sense == 0) else false))

def arcS (ps : List qaf) (a : qY) : Bool :=
  (inI a.From 0 (ps.length - 2) && inI a.To 0 (ps.length - 1)) &&
    (bif a.Kind == 1 then !clkAt ps a.From && ((a.To == (ps.length : Int) - 1) && (inI a.Sense 1 3 && (tablesB a.Delay true && tablesB a.Slew true)))
     else (bif (a.Kind == 2) || (a.Kind == 3) then clkAt ps a.From && ((a.To == (ps.length : Int) - 1) && ((a.Sense == 0) && (tablesB a.Delay true && tablesB a.Slew true)))
     else (bif (a.Kind == 4) || (a.Kind == 5) then clkAt ps a.From && (decide (a.To < (ps.length : Int) - 1) && (!clkAt ps a.To && ((a.Sense == 0) && (tablesB a.Delay false && ((a.Slew.length : Int) == 0))))) else false)))

theorem qk9 {c d : Bool} : (bif c then some c else some d) = some (c || d) := by cases c <;> rfl
theorem qnU {c d : Bool} : (bif c then some true else some d) = some (c || d) := by cases c <;> rfl

theorem qoI {n : Nat} {k : Int} : qg0 n k = some ((k == 4) || (k == 5)) := by simp only [qg0, qnU]
theorem qqG {c : qB} {a : qY} (h : okL qjz c.Pins) (ha : qkc a) (hm : 2 ≤ c.Pins.length) : Ev (fun n => qfr n c a) (arcI c.Pins a) := by
  have hl := h.len
  have e1 : W64 ((c.Pins.length : Int) - 1) = (c.Pins.length : Int) - 1 := qc8 (by omega)
  have e2 : W64 ((c.Pins.length : Int) - 1 - 1) = (c.Pins.length : Int) - 2 := by rw [qbo (by omega) (by omega)]; omega
  simp only [qfr, qoI, Option.bind_some, qeG, qdj, qbP, e1, e2, qd4, qk9, bne]
  unfold arcI
  refine Ev.iff (fun _ => Ev.last ?_) (fun _ => Ev.guardB ?_ (fun hb => ?_))
  · exact Ev.andP fun _ => Ev.andP fun _ => Ev.and (qiW ha.Delay) fun _ => Ev.bind (qqL hl) (Ev.andP fun _ => Ev.andP fun _ => Ev.andP fun _ => .done)
  · refine Ev.or (qiW ha.Delay) fun _ => Ev.or (qiW ha.Slew) fun _ => ?_
    simp only [qbO]
    exact Ev.orBP fun _ => .done
  · have hf : 0 ≤ a.From ∧ a.From ≤ (c.Pins.length : Int) - 2 := by
      simp only [Bool.and_eq_true, qdT] at hb
      exact hb.2.2.2
    simp only [qhj hf.1 (show a.From < (c.Pins.length : Int) by omega), Option.bind_some]
    exact Ev.iff (fun _ => Ev.andP fun _ => .done) (fun _ => Ev.iff (fun _ => Ev.andP fun _ => .done) (fun _ => .done))

theorem qpr {c : qB} {a : qY} (h : okL qjz c.Pins) (ha : qkc a) (hm : 2 ≤ c.Pins.length) : Ev (fun n => qhQ n c a) (arcS c.Pins a) := by
  have hl := h.len
  have e1 : W64 ((c.Pins.length : Int) - 1) = (c.Pins.length : Int) - 1 := qc8 (by omega)
  have e2 : W64 ((c.Pins.length : Int) - 1 - 1) = (c.Pins.length : Int) - 2 := by rw [qbo (by omega) (by omega)]; omega
  simp only [qhQ, Option.bind_some, e1, e2, qeJ, qk9]
  unfold arcS
  refine Ev.guardB ?_ (fun hb => ?_)
  · simp only [qbO]
    exact Ev.orBP fun _ => .done
  · have hf : (0 ≤ a.From ∧ a.From ≤ (c.Pins.length : Int) - 2) ∧ (0 ≤ a.To ∧ a.To ≤ (c.Pins.length : Int) - 1) := by
      simp only [Bool.and_eq_true, qdT] at hb
      exact hb
    simp only [qhj hf.1.1 (show a.From < (c.Pins.length : Int) by omega), qhj hf.2.1 (show a.To < (c.Pins.length : Int) by omega), Option.bind_some]
    refine Ev.iff (fun _ => ?_) (fun _ => Ev.iff (fun _ => ?_) (fun _ => Ev.iff (fun _ => ?_) (fun _ => .done)))
    · exact Ev.andP fun _ => Ev.andP fun _ => Ev.andP fun _ => Ev.and (qhb ha.Delay) fun _ => Ev.last (qhb ha.Slew)
    · exact Ev.andP fun _ => Ev.andP fun _ => Ev.andP fun _ => Ev.and (qhb ha.Delay) fun _ => Ev.last (qhb ha.Slew)
    · exact Ev.andP fun _ => Ev.andP fun _ => Ev.andP fun _ => Ev.andP fun _ => Ev.and (qhb ha.Delay) fun _ => .done

/-- The place of the clock, where there is one at most. -/
theorem qkR {ps : List qaf} (h1 : clkN ps ps.length ≤ 1) {x : Int} (hx : 0 ≤ x) : clkIx ps = x ↔ x < ps.length ∧ clkAt ps x = true := by
  unfold clkIx ixL
  cases hf : ps.findIdx? (fun p => p.Clock) with
  | some j =>
    obtain ⟨hj, hp, _⟩ := List.findIdx?_eq_some_iff_getElem.1 hf
    have hpj : (gt ps j).Clock = true := by rw [qjh hj]; exact hp
    constructor
    · intro e
      have e : (j : Int) = x := e
      subst e
      exact ⟨by omega, by unfold clkAt; rw [Int.toNat_natCast]; exact hpj⟩
    · rintro ⟨hl, hc⟩
      have := qqQ h1 hj (show x.toNat < ps.length by omega) hpj hc
      show (j : Int) = x
      omega
  | none =>
    have hn := List.findIdx?_eq_none_iff.1 hf
    constructor
    · intro e
      have e : (-1 : Int) = x := e
      omega
    · rintro ⟨hl, hc⟩
      have hxl : x.toNat < ps.length := by omega
      unfold clkAt at hc
      rw [qjh hxl] at hc
      have := hn _ (List.getElem_mem hxl)
      rw [hc] at this
      exact absurd this (by decide)

theorem qib {ps : List qaf} (h : pinsB ps = true) : (2 ≤ ps.length ∧ ps.length ≤ 5) ∧ clkAt ps ((ps.length : Int) - 1) = false := by
  unfold pinsB lenB at h
  simp only [Bool.and_eq_true, decide_eq_true_eq] at h
  refine ⟨h.2.1, ?_⟩
  have h1 := qbh.1 h.1 (ps.length - 1) (by omega)
  unfold pinB at h1
  rw [show decide (ps.length - 1 + 1 = ps.length) = true by simp; omega] at h1
  simp only [cond_true, Bool.and_eq_true, Bool.not_eq_true'] at h1
  unfold clkAt
  rw [show ((ps.length : Int) - 1).toNat = ps.length - 1 by omega]
  exact h1.2.2

theorem qrQ {ps : List qaf} {a : qY} (h : pinsB ps = true) (h1 : clkN ps ps.length ≤ 1) : arcI ps a = arcS ps a := by
  obtain ⟨⟨hm, hm5⟩, hlast⟩ := qib h
  rw [Bool.eq_iff_iff]
  unfold arcI arcS
  cases h45 : ((a.Kind == 4) || (a.Kind == 5)) with
  | true =>
    have k1 : (a.Kind == 1) = false := by simp at h45 ⊢; omega
    have k23 : ((a.Kind == 2) || (a.Kind == 3)) = false := by simp at h45 ⊢; omega
    rw [k1, k23]
    simp only [cond_true, cond_false, Bool.and_eq_true, qdT, decide_eq_true_eq, beq_iff_eq, Bool.not_eq_true', beq_eq_false_iff_ne, ne_eq]
    constructor
    · rintro ⟨hs, hsl, hd, hf, hf0, ht, hne⟩
      obtain ⟨hl, hc⟩ := (qkR h1 hf0).1 hf.symm
      have hfl : a.From ≠ (ps.length : Int) - 1 := by intro e; rw [e, hlast] at hc; cases hc
      refine ⟨⟨⟨hf0, by omega⟩, ⟨ht.1, by omega⟩⟩, hc, by omega, ?_, hs, hd, hsl⟩
      cases hct : clkAt ps a.To with
      | false => rfl
      | true =>
        have := (qkR h1 ht.1).2 ⟨by omega, hct⟩
        omega
    · rintro ⟨⟨hf, ht⟩, hc, hlt, hct, hs, hd, hsl⟩
      have := (qkR h1 hf.1).2 ⟨by omega, hc⟩
      refine ⟨hs, hsl, hd, this.symm, hf.1, ⟨ht.1, by omega⟩, ?_⟩
      intro e
      rw [e, hc] at hct
      cases hct
  | false =>
    simp only [cond_false, Bool.and_eq_true, qdT, beq_iff_eq]
    cases (a.Kind == 1)
    · cases ((a.Kind == 2) || (a.Kind == 3))
      · simp
      · simp only [cond_true, cond_false, Bool.and_eq_true, beq_iff_eq]
        constructor
        · rintro ⟨⟨h1, h2, h3, h4⟩, h5, h6⟩
          exact ⟨⟨h4, by omega⟩, h5, h3, h6, h1, h2⟩
        · rintro ⟨⟨h4, h7⟩, h5, h3, h6, h1, h2⟩
          exact ⟨⟨h1, h2, h3, h4⟩, h5, h6⟩
    · simp only [cond_true, Bool.and_eq_true, qdT, Bool.not_eq_true', beq_iff_eq]
      constructor
      · rintro ⟨⟨h1, h2, h3, h4⟩, h5, h6⟩
        exact ⟨⟨h4, by omega⟩, h5, h3, h6, h1, h2⟩
      · rintro ⟨⟨h4, h7⟩, h5, h3, h6, h1, h2⟩
        exact ⟨⟨h1, h2, h3, h4⟩, h5, h6⟩

theorem qpw {ps : List qaf} {a : qY} (h : arcS ps a = true) : 1 ≤ a.Kind ∧ a.Kind ≤ 5 := by
  unfold arcS at h
  rw [Bool.and_eq_true] at h
  have h := h.2
  cases h1 : (a.Kind == 1)
  · cases h2 : ((a.Kind == 2) || (a.Kind == 3))
    · cases h4 : ((a.Kind == 4) || (a.Kind == 5))
      · rw [h1, h2, h4] at h; cases h
      · simp at h4; omega
    · simp at h2; omega
  · simp at h1; omega

def sameArc (x y : qY) : Bool := (x.Kind == y.Kind) && ((x.From == y.From) && (x.To == y.To))
def newArc (ar : List qY) (j : Nat) : Bool := allN (fun i => !sameArc (gt ar i) (gt ar j)) j

theorem qo6 {c : qB} (h : okL qjz c.Pins) (ha : okL qkc c.Arcs) (hm : 2 ≤ c.Pins.length) : Ev (fun n => qev n c) (allN (fun j => arcI c.Pins (gt c.Arcs j) && newArc c.Arcs j) c.Arcs.length && decide (c.Arcs.length ≤ 8)) := by
  have hl := ha.len
  have h1 : ∀ (ar : List qY) (y : qY), ar.length ≤ 1048576 → Ev (fun n => qac n ar y) (ar.any fun x => sameArc x y) := by
    intro ar y hl
    unfold qac
    refine Ev.bind (b := ixL (fun x => sameArc x y) ar) (qfN (fin := (ar.length : Int)) (Lf := qK ar y) (pf := fun n x => qdN n x y) (fun x _ => ?_)
      (fun n => by simp only [qK, qu (Nat.le_refl _), cond_false])
      (fun n j x hx => by
        have hj := (List.getElem?_eq_some_iff.1 hx).1
        simp only [qK, qt hj, cond_true, qam hx, Option.bind_some, qq (show j < 9223372036854775807 by omega)])
      (fun n => by unfold qaF; congr 1; funext o; cases o <;> rfl)) (Ev.now (by rw [qix]))
    unfold qdN sameArc
    exact Ev.andP fun _ => Ev.andP fun _ => .done
  have hL : Ev (fun n => qbq c n 0) (bif allN (fun j => arcI c.Pins (gt c.Arcs j) && newArc c.Arcs j) c.Arcs.length then .nxt (c.Arcs.length : Int) else .ret false) := by
    refine qeP ?_ (fun j hj X hX => Ev.succ ?_)
    · exact Ev.succ (by simp only [qbq, qu (Nat.le_refl _), cond_false]; exact .done)
    · simp only [qbq, qt hj, cond_true, qaC hj, Option.bind_some, qpT (Nat.le_of_lt hj), qq (show j < 9223372036854775807 by omega)]
      refine Ev.chk (qqG h (qhX ha hj) hm) fun _ => Ev.chkT1 ?_ (fun _ => hX)
      refine (h1 _ _ (by simp; omega)).cast ?_
      rw [qqk (Nat.le_of_lt hj)]; rfl
  unfold qev
  refine Ev.bind hL ?_
  cases allN (fun j => arcI c.Pins (gt c.Arcs j) && newArc c.Arcs j) c.Arcs.length
  · exact .done
  · refine Ev.now ?_
    show some (decide ((c.Arcs.length : Int) ≤ ((8 : Nat) : Int))) = some (true && decide (c.Arcs.length ≤ 8))
    rw [qi2, Bool.true_and]

def hasB (ar : List qY) (k : Int) : Bool := ar.any fun a => a.Kind == k
theorem qk3 {c : qB} {k : Int} (hl : c.Arcs.length ≤ 1048576) : Ev (fun n => qcJ n c k) (hasB c.Arcs k) := by
  unfold qcJ qaK
  exact Ev.last (Ev.bind (b := ixL (fun x => x.Kind == k) c.Arcs) (qfN (fin := (c.Arcs.length : Int)) (Lf := qN c.Arcs k) (pf := fun n x => qgl n x k) (fun x _ => .done)
      (fun n => by simp only [qN, qu (Nat.le_refl _), cond_false])
      (fun n j x hx => by
        have hj := (List.getElem?_eq_some_iff.1 hx).1
        simp only [qN, qt hj, cond_true, qam hx, Option.bind_some, qq (show j < 9223372036854775807 by omega)])
      (fun n => by unfold qaV; congr 1; funext o; cases o <;> rfl)) (Ev.now (by rw [qix]; rfl)))

def kindN (ar : List qY) (k : Nat) (j : Nat) : Nat := cntP (fun i => (gt ar i).Kind == (k : Int)) j
theorem qmU {ar : List qY} {k : Nat} : decide (((kindN ar k ar.length : Nat) : Int) > 0) = hasB ar k := by
  rw [show decide (((kindN ar k ar.length : Nat) : Int) > 0) = decide (0 < kindN ar k ar.length) by simp]
  unfold kindN hasB
  rw [qqI, qqD]
theorem qow {ar : List qY} {k : Nat} : (((kindN ar k ar.length : Nat) : Int) == 0) = !hasB ar k := by
  rw [← qmU, Bool.eq_iff_iff]; simp

theorem qol {c : qB} (ha : okL qkc c.Arcs) (hk : ∀ j, j < c.Arcs.length → 1 ≤ (gt c.Arcs j).Kind ∧ (gt c.Arcs j).Kind ≤ 5) : Ev (fun n => qgi n c) (vecC (fun k => kindN c.Arcs k c.Arcs.length) 6) := by
  have hl := ha.len
  have hL : Ev (fun n => qb6 c n (vecC (fun _ => 0) 6) 0) (vecC (fun k => kindN c.Arcs k c.Arcs.length) 6, (c.Arcs.length : Int)) := by
    refine loopF (Lf := qb6 c) (S := fun j => vecC (fun k => kindN c.Arcs k j) 6) (len := c.Arcs.length) (fun n => ?_) (fun j hj X hX => ?_)
    · simp only [qb6, qu (Nat.le_refl _), cond_false]
    · obtain ⟨k1, k5⟩ := hk j hj
      have ek : (gt c.Arcs j).Kind = (((gt c.Arcs j).Kind.toNat : Nat) : Int) := qo4 (by omega)
      have hc : kindN c.Arcs (gt c.Arcs j).Kind.toNat j ≤ j := qfC
      simp only [qb6, qt hj, cond_true, qaC hj, Option.bind_some, qq (show j < 9223372036854775807 by omega)]
      rw [ek, qh9 (show (gt c.Arcs j).Kind.toNat < 6 by omega)]
      simp only [Option.bind_some]
      rw [qmN (c := fun k => kindN c.Arcs k j) (by show kindN c.Arcs _ j < _; omega)]
      have : vecC (fun i => kindN c.Arcs i j + (bif decide ((gt c.Arcs j).Kind.toNat = i) then 1 else 0)) 6 = vecC (fun k => kindN c.Arcs k (j + 1)) 6 := by
        refine qih (fun k _ => ?_)
        show _ = kindN c.Arcs k j + (bif (gt c.Arcs j).Kind == (k : Int) then 1 else 0)
        congr 2
        rw [Bool.eq_iff_iff]; simp; omega
      rw [this]
      exact hX
  unfold qgi
  rw [show mkS 6 (0 : Int) = some (vecC (fun _ => 0) 6) from qjJ (m := 6) (by omega)]
  simp only [Option.bind_some]
  exact Ev.bind hL .done

/-! ### Cells -/

def kindB (c : qB) : Bool :=
  bif c.Kind == 1 then (((clkN c.Pins c.Pins.length : Nat) : Int) == 0) && (((c.Truth.length : Int) == ((2 ^ (c.Pins.length - 1) : Nat) : Int)) && (c.Truth.all fun x => inI x 0 1))
  else bif c.Kind == 2 then (((clkN c.Pins c.Pins.length : Nat) : Int) == 1) && (((c.Truth.length : Int) == 0) && (!hasB c.Arcs 1 && !(hasB c.Arcs 2 == hasB c.Arcs 3)))
  else bif c.Kind == 3 then (((clkN c.Pins c.Pins.length : Nat) : Int) == 1) && (((c.Truth.length : Int) == 0) && (hasB c.Arcs 1 && (hasB c.Arcs 2 && !hasB c.Arcs 3)))
  else false

theorem qp2 {c : qB} (h : kindB c = true) : clkN c.Pins c.Pins.length ≤ 1 := by
  unfold kindB at h
  cases h1 : (c.Kind == 1)
  · cases h2 : (c.Kind == 2)
    · cases h3 : (c.Kind == 3)
      · rw [h1, h2, h3] at h; cases h
      · rw [h1, h2, h3] at h
        simp only [cond_true, cond_false, Bool.and_eq_true, beq_iff_eq] at h
        omega
    · rw [h1, h2] at h
      simp only [cond_true, cond_false, Bool.and_eq_true, beq_iff_eq] at h
      omega
  · rw [h1] at h
    simp only [cond_true, Bool.and_eq_true, beq_iff_eq] at h
    omega

theorem qn1 {m : Nat} (h1 : 2 ≤ m) (h2 : m ≤ 5) : shlS 1 (W64 ((m : Int) - 1)) = some ((2 ^ (m - 1) : Nat) : Int) ∧ shlS 1 (IntKind.wrap .u64 (W64 ((m : Int) - 1))) = some ((2 ^ (m - 1) : Nat) : Int) := by
  have : m = 2 ∨ m = 3 ∨ m = 4 ∨ m = 5 := by omega
  rcases this with rfl | rfl | rfl | rfl <;> exact ⟨by decide, by decide⟩

theorem qn7 {c : qB} (hc : qjM c) (hm : 2 ≤ c.Pins.length) (hm5 : c.Pins.length ≤ 5) : Ev (fun n => qei n c) (kindB c) := by
  have hl := hc.Pins.len
  have hL : Ev (fun n => qaL c n 0 0) (((clkN c.Pins c.Pins.length : Nat) : Int), (c.Pins.length : Int)) := by
    refine loopF (Lf := qaL c) (S := fun j => ((clkN c.Pins j : Nat) : Int)) (len := c.Pins.length) (fun n => ?_) (fun j hj X hX => ?_)
    · simp only [qaL, qu (Nat.le_refl _), cond_false]
    · have hn : clkN c.Pins j ≤ j := qfC
      simp only [qaL, qt hj, cond_true, qaC hj, Option.bind_some, qq (show j < 9223372036854775807 by omega), qq (show clkN c.Pins j < 9223372036854775807 by omega)]
      have hck : clkN c.Pins (j + 1) = clkN c.Pins j + (bif (gt c.Pins j).Clock then 1 else 0) := rfl
      rw [hck] at hX
      cases hc : (gt c.Pins j).Clock
      · rw [hc] at hX; exact Ev.ff rfl hX
      · rw [hc] at hX; exact Ev.tt rfl hX
  unfold qei kindB
  refine Ev.bind hL ?_
  simp only [qdj, qbP, Option.bind_some, (qn1 hm hm5).1]
  have hal := hc.Arcs.len
  refine Ev.iff (fun _ => ?_) (fun _ => Ev.iff (fun _ => ?_) (fun _ => Ev.iff (fun _ => ?_) (fun _ => .done)))
  · exact Ev.andP fun _ => Ev.andP fun _ => Ev.last (qfa hc.Truth.len)
  · exact Ev.andP fun _ => Ev.andP fun _ => Ev.bind (qk3 hal) (Ev.andP fun _ => Ev.bind (qk3 hal) (Ev.bind (qk3 hal) .done))
  · exact Ev.andP fun _ => Ev.andP fun _ => Ev.and (qk3 hal) fun _ => Ev.and (qk3 hal) fun _ => Ev.bind (qk3 hal) .done

def cellB (c : qB) : Bool :=
  nameB c.Name && (pinsB c.Pins && ((allN (fun j => arcI c.Pins (gt c.Arcs j) && newArc c.Arcs j) c.Arcs.length && decide (c.Arcs.length ≤ 8)) && (inI c.Leak 0 100000 && (inI c.Energy 0 100000 && kindB c))))

theorem qpQ {c : qB} (hc : qjM c) : Ev (fun n => qhR n c) (cellB c) := by
  simp only [qhR, qmV hc.Name, qd4, Option.bind_some]
  unfold cellB
  refine Ev.andP fun _ => Ev.and (qpa hc.Pins) fun hp => ?_
  obtain ⟨⟨hm, hm5⟩, _⟩ := qib hp
  exact Ev.and (qo6 hc.Pins hc.Arcs hm) fun _ => Ev.andP fun _ => Ev.andP fun _ => Ev.last (qn7 hc hm hm5)

theorem qos {c : qB} (hc : qjM c) : Ev (fun n => qhC n c) (cellB c) := by
  have hal := hc.Arcs.len
  have htl := hc.Truth.len
  have e : cellB c = ((pinsB c.Pins && (nameB c.Name && (decide (c.Arcs.length ≤ 8) && (inI c.Leak 0 100000 && inI c.Energy 0 100000)))) && (allN (fun j => arcS c.Pins (gt c.Arcs j) && newArc c.Arcs j) c.Arcs.length && kindB c)) := by
    unfold cellB
    cases hk : kindB c
    · simp
    · cases hp : pinsB c.Pins
      · simp
      · rw [qgp (fun j _ => by rw [qrQ hp (qp2 hk)])]
        cases nameB c.Name <;> cases allN (fun j => arcS c.Pins (gt c.Arcs j) && newArc c.Arcs j) c.Arcs.length <;> cases decide (c.Arcs.length ≤ 8) <;> cases inI c.Leak 0 100000 <;> cases inI c.Energy 0 100000 <;> rfl
  rw [e]
  unfold qhC
  refine Ev.bind (qoE hc.Pins) ?_
  cases hp : pinsB c.Pins
  · exact .done
  · obtain ⟨⟨hm, hm5⟩, _⟩ := qib hp
    simp only [cond_true, Bool.true_and, Bool.not_true, cond_false]
    refine Ev.guardB ?_ (fun _ => ?_)
    · simp only [qeJ, Option.bind_some, qbO]
      refine Ev.orB (qkb hc.Name) fun _ => ?_
      rw [show decide ((c.Arcs.length : Int) > 8) = !decide (c.Arcs.length ≤ 8) by rw [Bool.eq_iff_iff]; simp; omega, qbO]
      exact Ev.orBP fun _ => Ev.orBP fun _ => .done
    · have hL2 : ∀ j, j < c.Arcs.length → Ev (fun n => qcp c (j : Int) (gt c.Arcs j) n 0) (bif newArc c.Arcs j then .nxt (j : Int) else .ret false) := by
        intro j hj
        refine qeP ?_ (fun i hi X hX => Ev.succ ?_)
        · exact Ev.succ (by simp only [qcp, qu (Nat.le_refl _), cond_false]; exact .done)
        · simp only [qcp, qt hi, cond_true, qaC (show i < c.Arcs.length by omega), Option.bind_some, qq (show i < 9223372036854775807 by omega)]
          unfold sameArc
          cases ((gt c.Arcs i).Kind == (gt c.Arcs j).Kind)
          · exact hX
          · cases ((gt c.Arcs i).From == (gt c.Arcs j).From)
            · exact hX
            · cases ((gt c.Arcs i).To == (gt c.Arcs j).To)
              · exact hX
              · exact .done
      have hL1 : Ev (fun n => qdt c n 0) (bif allN (fun j => arcS c.Pins (gt c.Arcs j) && newArc c.Arcs j) c.Arcs.length then .nxt (c.Arcs.length : Int) else .ret false) := by
        refine qeP ?_ (fun j hj X hX => Ev.succ ?_)
        · exact Ev.succ (by simp only [qdt, qu (Nat.le_refl _), cond_false]; exact .done)
        · simp only [qdt, qt hj, cond_true, qaC hj, Option.bind_some, qq (show j < 9223372036854775807 by omega)]
          refine Ev.chk (qpr hc.Pins (qhX hc.Arcs hj) hm) fun _ => Ev.bind (hL2 j hj) ?_
          cases newArc c.Arcs j
          · exact .done
          · exact hX
      have hL3 : Ev (fun n => qds c n 0) (bif (c.Truth.all fun x => inI x 0 1) then .nxt (c.Truth.length : Int) else .ret false) :=
        qkF (fun n => by simp only [qds, qu (Nat.le_refl _), cond_false]) (fun j hj X hX => by
          simp only [qds, qt hj, cond_true, qgN hj, Option.bind_some, qeJ, qq (show j < 9223372036854775807 by omega), qbO]
          exact Ev.okP1 fun _ => hX)
      refine Ev.bind hL1 ?_
      cases hA : allN (fun j => arcS c.Pins (gt c.Arcs j) && newArc c.Arcs j) c.Arcs.length
      · exact .done
      · have hk : ∀ j, j < c.Arcs.length → 1 ≤ (gt c.Arcs j).Kind ∧ (gt c.Arcs j).Kind ≤ 5 := fun j hj => by
          have := qbh.1 hA j hj
          rw [Bool.and_eq_true] at this
          exact qpw this.1
        simp only [cond_true, Bool.true_and]
        refine Ev.bind (qol hc.Arcs hk) ?_
        simp only [(qn1 hm hm5).2, Option.bind_some,
          show idx (vecC (fun k => kindN c.Arcs k c.Arcs.length) 6) (1 : Int) = some ((kindN c.Arcs 1 c.Arcs.length : Nat) : Int) from qh9 (k := 1) (by omega),
          show idx (vecC (fun k => kindN c.Arcs k c.Arcs.length) 6) (2 : Int) = some ((kindN c.Arcs 2 c.Arcs.length : Nat) : Int) from qh9 (k := 2) (by omega),
          show idx (vecC (fun k => kindN c.Arcs k c.Arcs.length) 6) (3 : Int) = some ((kindN c.Arcs 3 c.Arcs.length : Nat) : Int) from qh9 (k := 3) (by omega), qmU, qow]
        unfold kindB
        refine Ev.iff (fun _ => ?_) (fun _ => Ev.iff (fun _ => ?_) (fun _ => Ev.iff (fun _ => ?_) (fun _ => .done)))
        · refine Ev.bind hL3 ?_
          cases (c.Truth.all fun x => inI x 0 1)
          · exact Ev.now (by simp)
          · exact (Ev.andP (fun _ => .done)).cast (by rw [Bool.and_true])
        · refine (Ev.andP fun _ => Ev.andP fun _ => Ev.andP fun _ => .done).cast ?_
          cases (((clkN c.Pins c.Pins.length : Nat) : Int) == 1) <;> cases ((c.Truth.length : Int) == 0) <;> cases hasB c.Arcs ((1 : Nat) : Int) <;> cases hasB c.Arcs ((2 : Nat) : Int) <;> cases hasB c.Arcs ((3 : Nat) : Int) <;> rfl
        · refine (Ev.andP fun _ => Ev.andP fun _ => Ev.andP fun _ => Ev.andP fun _ => .done).cast ?_
          cases (((clkN c.Pins c.Pins.length : Nat) : Int) == 1) <;> cases ((c.Truth.length : Int) == 0) <;> cases hasB c.Arcs ((1 : Nat) : Int) <;> cases hasB c.Arcs ((2 : Nat) : Int) <;> cases hasB c.Arcs ((3 : Nat) : Int) <;> rfl

/-! ### Libraries -/

def libB (l : qz) : Bool := l.Cells.all cellB && (decide (l.Cells.length ≤ 8) && namesB (l.Cells.map qB.Name))

theorem qnv {l : qz} (h : qgr l) : Ev (fun n => qfM n l) (libB l) := by
  have hl := h.Cells.len
  have hL : Ev (fun n => qbI l n ([] : List ByteArray) 0) (bif allN (fun j => cellB (gt l.Cells j)) l.Cells.length then .nxt (l.Cells.map qB.Name, (l.Cells.length : Int)) else .ret false) := by
    refine loopN (Lf := qbI l) (S := fun j => (l.Cells.take j).map qB.Name) (fun j => cellB (gt l.Cells j)) (fun n => ?_) (fun j hj hp X hX => ?_)
    · simp only [qbI, qu (Nat.le_refl _), cond_false, List.take_length]
    · simp only [qbI, qt hj, cond_true, qaC hj, Option.bind_some, qiA hj hl, qfn (g := qB.Name) hj, qq (show j < 9223372036854775807 by omega)]
      exact Ev.chk1 (qpQ (qhX h.Cells hj)) hX
  unfold qfM libB
  rw [qhu]
  refine Ev.bind hL ?_
  cases allN (fun j => cellB (gt l.Cells j)) l.Cells.length
  · exact .done
  · simp only [cond_true, Bool.true_and, show decide ((l.Cells.length : Int) ≤ 8) = decide (l.Cells.length ≤ 8) from qi2 (k := 8)]
    exact Ev.andP fun _ => Ev.last (qhS (qjN h.Cells (fun x hx => hx.Name)))
end Go.Fw


namespace Go.Fw
open Go
set_option maxRecDepth 100000

theorem qo7 {c : qB} (h : cellB c = true) : nameB c.Name = true := by
  unfold cellB at h; rw [Bool.and_eq_true] at h; exact h.1
theorem qmm {c : qB} (h : cellB c = true) : pinsB c.Pins = true := by
  unfold cellB at h; simp only [Bool.and_eq_true] at h; exact h.2.1

theorem qmu {l : qz} (h : qgr l) : Ev (fun n => qfQ n l) (libB l) := by
  have hl := h.Cells.len
  have hL2 : ∀ j, j < l.Cells.length → Ev (fun n => qcj l (j : Int) n 0) (bif allN (neB (l.Cells.map qB.Name) j) j then .nxt (j : Int) else .ret false) := by
    intro j hj
    refine qeP ?_ (fun i hi X hX => Ev.succ ?_)
    · exact Ev.succ (by simp only [qcj, qu (Nat.le_refl _), cond_false]; exact .done)
    · simp only [qcj, qt hi, cond_true, qaC (show i < l.Cells.length by omega), qaC hj, Option.bind_some, qge, qq (show i < 9223372036854775807 by omega)]
      unfold neB
      rw [qh7 (g := qB.Name) (show i < l.Cells.length by omega), qh7 (g := qB.Name) hj]
      exact Ev.chkP1 (fun _ => hX)
  have hL1 : Ev (fun n => qci l n 0) (bif allN (fun j => cellB (gt l.Cells j) && allN (neB (l.Cells.map qB.Name) j) j) l.Cells.length then .nxt (l.Cells.length : Int) else .ret false) := by
    refine qeP ?_ (fun j hj X hX => Ev.succ ?_)
    · exact Ev.succ (by simp only [qci, qu (Nat.le_refl _), cond_false]; exact .done)
    · simp only [qci, qt hj, cond_true, qaC hj, Option.bind_some, qq (show j < 9223372036854775807 by omega)]
      refine Ev.chk (qos (qhX h.Cells hj)) fun _ => Ev.bind (hL2 j hj) ?_
      cases allN (neB (l.Cells.map qB.Name) j) j
      · exact .done
      · exact hX
  have e : libB l = (allN (fun j => cellB (gt l.Cells j) && allN (neB (l.Cells.map qB.Name) j) j) l.Cells.length && decide (l.Cells.length ≤ 8)) := by
    unfold libB namesB
    rw [qhu, List.length_map, Bool.and_comm (decide (l.Cells.length ≤ 8)), ← Bool.and_assoc, ← qiN]
    congr 1
    refine qgp (fun j hj => ?_)
    rw [qh7 (g := qB.Name) hj]
    cases hc : cellB (gt l.Cells j)
    · rfl
    · rw [qo7 hc]; rfl
  rw [e]
  unfold qfQ
  refine Ev.bind hL1 ?_
  cases allN (fun j => cellB (gt l.Cells j) && allN (neB (l.Cells.map qB.Name) j) j) l.Cells.length
  · exact .done
  · refine Ev.now ?_
    show some (decide ((l.Cells.length : Int) ≤ ((8 : Nat) : Int))) = some (true && decide (l.Cells.length ≤ 8))
    rw [qi2, Bool.true_and]

theorem qiQ {c c' : Nat → Nat} {m : Nat} {x : Int} (h0 : 0 ≤ x) (h1 : x < m) (hc : c x.toNat < 9223372036854775807) (he : ∀ k, k < m → c' k = c k + (bif x == (k : Int) then 1 else 0)) :
    idx (vecC c m) x = some (c x.toNat : Int) ∧ setS (vecC c m) x (W64 ((c x.toNat : Int) + 1)) = vecC c' m := by
  have ex : x = (x.toNat : Int) := qo4 h0
  have e1 := qh9 (c := c) (m := m) (k := x.toNat) (by omega)
  have e2 := qmN (c := c) (m := m) (k := x.toNat) hc
  rw [← ex] at e1 e2
  refine ⟨e1, e2.trans (qih (fun k hk => ?_))⟩
  rw [he k hk]
  congr 2
  rw [Bool.eq_iff_iff]; simp; omega

/-! ### Parts of a design -/

def netB (d : ql) (x : Int) : Bool := inI x 0 ((d.Nets.length : Int) - 1)
theorem qnN {n : Nat} {d : ql} {x : Int} (hl : d.Nets.length ≤ 1048576) : qcU n d x = some (netB d x) := by
  simp only [qcU, qfk, Option.bind_some, qd4, qc8 (show d.Nets.length ≤ 9223372036854775807 by omega)]; rfl
theorem qmZ {n : Nat} {d : ql} {x : Int} (hl : d.Nets.length ≤ 1048576) : qas n x 0 (W64 ((d.Nets.length : Int) - 1)) = some (netB d x) := by
  rw [qeJ, qc8 (show d.Nets.length ≤ 9223372036854775807 by omega)]; rfl

def hasNamesB (d : ql) : Bool := (decide (d.Instances.length ≤ 14) && (decide (d.Nets.length ≤ 30) && decide (d.Ports.length ≤ 8))) && (namesB (d.Instances.map qk.Name) && (namesB d.Nets && namesB (d.Ports.map qV.Name)))

theorem qnV {d : ql} (h : qh6 d) : Ev (fun n => qdv n d) (hasNamesB d) := by
  have hli := h.Instances.len
  have hlp := h.Ports.len
  have hL1 : Ev (fun n => qaI d n ([] : List ByteArray) 0) (d.Instances.map qk.Name, (d.Instances.length : Int)) := by
    refine loopF (Lf := qaI d) (S := fun j => (d.Instances.take j).map qk.Name) (len := d.Instances.length) (fun n => ?_) (fun j hj X hX => ?_)
    · simp only [qaI, qu (Nat.le_refl _), cond_false, List.take_length]
    · simpa only [qaI, qt hj, cond_true, qaC hj, Option.bind_some, qiA hj hli, qfn (g := qk.Name) hj, qq (show j < 9223372036854775807 by omega)] using hX
  have hL2 : Ev (fun n => qaJ d n ([] : List ByteArray) 0) (d.Ports.map qV.Name, (d.Ports.length : Int)) := by
    refine loopF (Lf := qaJ d) (S := fun j => (d.Ports.take j).map qV.Name) (len := d.Ports.length) (fun n => ?_) (fun j hj X hX => ?_)
    · simp only [qaJ, qu (Nat.le_refl _), cond_false, List.take_length]
    · simpa only [qaJ, qt hj, cond_true, qaC hj, Option.bind_some, qiA hj hlp, qfn (g := qV.Name) hj, qq (show j < 9223372036854775807 by omega)] using hX
  unfold qdv hasNamesB
  refine Ev.bind hL1 (Ev.bind hL2 ?_)
  simp only [List.length_map]
  rw [show decide ((d.Instances.length : Int) ≤ 14) = decide (d.Instances.length ≤ 14) from qi2 (k := 14), show decide ((d.Nets.length : Int) ≤ 30) = decide (d.Nets.length ≤ 30) from qi2 (k := 30), show decide ((d.Ports.length : Int) ≤ 8) = decide (d.Ports.length ≤ 8) from qi2 (k := 8)]
  rw [Bool.and_assoc, Bool.and_assoc]
  exact Ev.andP fun _ => Ev.andP fun _ => Ev.andP fun _ => Ev.and (qhS (qjN h.Instances (fun x hx => hx.Name))) fun _ => Ev.and (qhS h.Nets) fun _ => Ev.last (qhS (qjN h.Ports (fun x hx => hx.Name)))

def instB (l : qz) (d : ql) (x : qk) : Bool := inI x.Cell 0 ((l.Cells.length : Int) - 1) && (((x.Nets.length : Int) == ((gt l.Cells x.Cell.toNat).Pins.length : Int)) && x.Nets.all (netB d))

theorem qmC {d : ql} {l : qz} {x : qk} (hn : d.Nets.length ≤ 1048576) (hc : l.Cells.length ≤ 1048576) (hx : x.Nets.length ≤ 1048576) : Ev (fun n => qcO n d l x) (instB l d x) := by
  simp only [qcO, qek, Option.bind_some, qd4, qc8 (show l.Cells.length ≤ 9223372036854775807 by omega)]
  unfold instB
  refine Ev.andP fun hI => ?_
  rw [qdT] at hI
  rw [qhj hI.1 (by omega)]
  simp only [Option.bind_some]
  refine Ev.andP fun _ => Ev.bind (b := x.Nets.any fun y => !netB d y) ?_ (Ev.now (by rw [qkL]))
  unfold qan
  exact Ev.bind (b := ixL (fun y => !netB d y) x.Nets) (qfN (fin := (x.Nets.length : Int)) (Lf := qJ x.Nets d) (pf := fun n y => qcr n y d) (fun y _ => ⟨0, fun n _ => by simp only [qcr, qnN hn, Option.bind_some]⟩)
      (fun n => by simp only [qJ, qu (Nat.le_refl _), cond_false])
      (fun n j y hx => by
        have hj := (List.getElem?_eq_some_iff.1 hx).1
        simp only [qJ, qt hj, cond_true, qam hx, Option.bind_some, qq (show j < 9223372036854775807 by omega)])
      (fun n => by unfold qay; congr 1; funext o; cases o <;> rfl)) (Ev.now (by rw [qix]))

def portB (d : ql) (p : qV) : Bool := inI p.Dir 1 2 && netB d p.Net
theorem qrL {x : Int} : inI x 1 2 = ((x == 1) || (x == 2)) := by
  unfold inI; rw [Bool.eq_iff_iff]; simp; omega

/-- The net that an instance drives. -/
def lastN (x : qk) : Int := at0 x.Nets (x.Nets.length - 1)
theorem qnL {x : qk} (h1 : 1 ≤ x.Nets.length) (h2 : x.Nets.length ≤ 1048576) : idx x.Nets (W64 ((x.Nets.length : Int) - 1)) = some (lastN x) := by
  rw [qc8 (by omega), show ((x.Nets.length : Int) - 1) = ((x.Nets.length - 1 : Nat) : Int) by omega, qb9 (by omega)]; rfl
theorem qp1 {d : ql} {x : qk} (h1 : 1 ≤ x.Nets.length) (h : x.Nets.all (netB d) = true) : 0 ≤ lastN x ∧ lastN x < d.Nets.length := by
  rw [qg1 (d := 0), qbh] at h
  have := h (x.Nets.length - 1) (by omega)
  unfold netB at this
  rw [qdT] at this
  unfold lastN at0
  omega
theorem qlM {l : qz} {d : ql} {x : qk} (hl : libB l = true) (h : instB l d x = true) : 1 ≤ x.Nets.length ∧ 0 ≤ lastN x ∧ lastN x < d.Nets.length := by
  unfold instB at h
  simp only [Bool.and_eq_true, qdT, beq_iff_eq] at h
  obtain ⟨h1, h2, h3⟩ := h
  unfold libB at hl
  simp only [Bool.and_eq_true] at hl
  have hc := hl.1
  rw [qhu, qbh] at hc
  have := qib (qmm (hc x.Cell.toNat (by omega)))
  have h4 : 1 ≤ x.Nets.length := by omega
  exact ⟨h4, qp1 h4 h3⟩

def drvI (d : ql) (k j : Nat) : Nat := cntP (fun i => lastN (gt d.Instances i) == (k : Int)) j
def drvP (d : ql) (k j : Nat) : Nat := cntP (fun i => ((gt d.Ports i).Dir == 1) && ((gt d.Ports i).Net == (k : Int))) j
def drvB (d : ql) : Bool := allN (fun k => ((drvI d k d.Instances.length + drvP d k d.Ports.length : Nat) : Int) == 1) d.Nets.length
def designB (l : qz) (d : ql) : Bool := (libB l && hasNamesB d) && (d.Instances.all (instB l d) && (d.Ports.all (portB d) && drvB d))

theorem qm4 {d : ql} {k j : Nat} : drvI d k (j + 1) = drvI d k j + (bif lastN (gt d.Instances j) == (k : Int) then 1 else 0) := rfl
theorem qjO {d : ql} {k j : Nat} : drvP d k (j + 1) = drvP d k j + (bif ((gt d.Ports j).Dir == 1) && ((gt d.Ports j).Net == (k : Int)) then 1 else 0) := rfl

theorem qnQ {l : qz} {d : ql} (h : qgr l) (hd : qh6 d) : Ev (fun n => qf7 n l d) (designB l d) := by
  have hli := hd.Instances.len
  have hlp := hd.Ports.len
  have hln := hd.Nets.len
  have hlc := h.Cells.len
  unfold qf7 designB
  refine Ev.guardB (Ev.or (qnv h) fun _ => Ev.neg (qnV hd)) fun hb => ?_
  rw [Bool.and_eq_true] at hb
  rw [qjJ (m := d.Nets.length) (by omega)]
  simp only [Option.bind_some]
  have hL1 : Ev (fun n => qb8 l d n (vecC (fun _ => 0) d.Nets.length) 0) (bif allN (fun j => instB l d (gt d.Instances j)) d.Instances.length then .nxt (vecC (fun k => drvI d k d.Instances.length) d.Nets.length, (d.Instances.length : Int)) else .ret false) := by
    refine loopN (Lf := qb8 l d) (S := fun j => vecC (fun k => drvI d k j) d.Nets.length) (fun j => instB l d (gt d.Instances j)) (fun n => ?_) (fun j hj hp X hX => ?_)
    · simp only [qb8, qu (Nat.le_refl _), cond_false]
    · simp only [qb8, qt hj, cond_true, qaC hj, Option.bind_some, qq (show j < 9223372036854775807 by omega)]
      have hxl := (qhX hd.Instances hj).Nets.len
      refine Ev.chk1 (qmC hln hlc hxl) fun hi => ?_
      obtain ⟨h1, h2, h3⟩ := qlM hb.1 hi
      have hc : drvI d (lastN (gt d.Instances j)).toNat j ≤ j := qfC
      obtain ⟨e1, e2⟩ := qiQ (c := fun k => drvI d k j) (c' := fun k => drvI d k (j + 1)) h2 h3 (by show drvI _ _ _ < _; omega) (fun k _ => qm4)
      simp only [qnL h1 hxl, Option.bind_some, e1, e2]
      exact hX hi
  have hL2 : Ev (fun n => qbA d n (vecC (fun k => drvI d k d.Instances.length) d.Nets.length) 0) (bif allN (fun j => portB d (gt d.Ports j)) d.Ports.length then .nxt (vecC (fun k => drvI d k d.Instances.length + drvP d k d.Ports.length) d.Nets.length, (d.Ports.length : Int)) else .ret false) := by
    refine loopN (Lf := qbA d) (S := fun j => vecC (fun k => drvI d k d.Instances.length + drvP d k j) d.Nets.length) (fun j => portB d (gt d.Ports j)) (fun n => ?_) (fun j hj hp X hX => ?_)
    · simp only [qbA, qu (Nat.le_refl _), cond_false]
    · simp only [qbA, qt hj, cond_true, qaC hj, Option.bind_some, qnN hln, bne, qq (show j < 9223372036854775807 by omega)]
      refine Ev.chkT1 ?_ fun hi => ?_
      · unfold portB
        rw [qrL]
        cases ((gt d.Ports j).Dir == 1) <;> cases ((gt d.Ports j).Dir == 2) <;> exact .done
      · have hX := hX hi
        unfold portB netB at hi
        simp only [Bool.and_eq_true, qdT] at hi
        have hc1 : drvI d (gt d.Ports j).Net.toNat d.Instances.length ≤ d.Instances.length := qfC
        have hc2 : drvP d (gt d.Ports j).Net.toNat j ≤ j := qfC
        cases h1 : ((gt d.Ports j).Dir == 1)
        · have : vecC (fun k => drvI d k d.Instances.length + drvP d k (j + 1)) d.Nets.length = vecC (fun k => drvI d k d.Instances.length + drvP d k j) d.Nets.length := by
            refine qih (fun k _ => ?_)
            rw [qjO, h1]; rfl
          rw [this] at hX
          exact hX
        · obtain ⟨e1, e2⟩ := qiQ (c := fun k => drvI d k d.Instances.length + drvP d k j) (c' := fun k => drvI d k d.Instances.length + drvP d k (j + 1)) (x := (gt d.Ports j).Net) (m := d.Nets.length) hi.2.1 (by omega) (by show drvI _ _ _ + drvP _ _ _ < _; omega) (fun k _ => by rw [qjO, h1, Bool.true_and]; omega)
          simp only [cond_true, Option.bind_some, e1, e2]
          exact hX
  rw [qhu, qhu]
  refine Ev.bind hL1 ?_
  cases allN (fun j => instB l d (gt d.Instances j)) d.Instances.length
  · exact .done
  · refine Ev.bind hL2 ?_
    cases allN (fun j => portB d (gt d.Ports j)) d.Ports.length
    · exact .done
    · simp only [cond_true, Bool.true_and]
      unfold qa5
      refine Ev.bind (b := (vecC (fun k => drvI d k d.Instances.length + drvP d k d.Ports.length) d.Nets.length).any fun x => !(x == 1)) (Ev.bind (b := ixL (fun x => !(x == 1)) (vecC (fun k => drvI d k d.Instances.length + drvP d k d.Ports.length) d.Nets.length)) (qfN (fin := (((vecC (fun k => drvI d k d.Instances.length + drvP d k d.Ports.length) d.Nets.length).length : Nat) : Int)) (Lf := qU (vecC (fun k => drvI d k d.Instances.length + drvP d k d.Ports.length) d.Nets.length)) (pf := fun n y => qgn n y) (fun y _ => .done)
        (fun n => by simp only [qU, qu (Nat.le_refl _), cond_false])
        (fun n j y hx => by
          have hj := (List.getElem?_eq_some_iff.1 hx).1
          have : j < d.Nets.length := by rw [qji] at hj; exact hj
          simp only [qU, qt hj, cond_true, qam hx, Option.bind_some, qq (show j < 9223372036854775807 by omega)])
        (fun n => by unfold qbl; congr 1; funext o; cases o <;> rfl)) (Ev.now (by rw [qix]))) (Ev.now ?_)
      rw [qkL, qg1 (d := 0), qji]
      unfold drvB
      congr 1
      exact qgp (fun k hk => by
        have := qn6 (c := fun k => drvI d k d.Instances.length + drvP d k d.Ports.length) hk
        unfold at0 at this
        rw [this])

theorem qn9 {l : qz} {d : ql} (h : qgr l) (hd : qh6 d) : Ev (fun n => qgf n l d) (d.Instances.all (instB l d) && d.Ports.all (portB d)) := by
  have hli := hd.Instances.len
  have hlp := hd.Ports.len
  have hln := hd.Nets.len
  have hlc := h.Cells.len
  have hL2 : ∀ x : qk, x.Nets.length ≤ 1048576 → Ev (fun n => qcH d x n 0) (bif x.Nets.all (netB d) then .nxt (x.Nets.length : Int) else .ret false) := fun x hx =>
    qkF (fun n => by simp only [qcH, qu (Nat.le_refl _), cond_false]) (fun j hj X hX => by
      simp only [qcH, qt hj, cond_true, qgN hj, Option.bind_some, qmZ hln, qq (show j < 9223372036854775807 by omega), qbO]
      exact Ev.okP1 fun _ => hX)
  have hL1 : Ev (fun n => qcB l d n 0) (bif allN (fun j => instB l d (gt d.Instances j)) d.Instances.length then .nxt (d.Instances.length : Int) else .ret false) := by
    refine qeP ?_ (fun j hj X hX => Ev.succ ?_)
    · exact Ev.succ (by simp only [qcB, qu (Nat.le_refl _), cond_false]; exact .done)
    · simp only [qcB, qt hj, cond_true, qaC hj, Option.bind_some, qeJ, qc8 (show l.Cells.length ≤ 9223372036854775807 by omega), qq (show j < 9223372036854775807 by omega), bne]
      have hxl := (qhX hd.Instances hj).Nets.len
      unfold instB
      rw [← Bool.and_assoc]
      refine Ev.chkT ?_ fun _ => Ev.bind (hL2 _ hxl) ?_
      · simp only [qbO]
        refine Ev.orBP fun hI => ?_
        rw [qdT] at hI
        rw [qhj hI.1 (by omega)]
        exact .done
      · cases (gt d.Instances j).Nets.all (netB d)
        · exact .done
        · exact hX
  have hL3 : Ev (fun n => qcF d n 0) (bif allN (fun j => portB d (gt d.Ports j)) d.Ports.length then .nxt (d.Ports.length : Int) else .ret false) := by
    refine qeP ?_ (fun j hj X hX => Ev.succ ?_)
    · exact Ev.succ (by simp only [qcF, qu (Nat.le_refl _), cond_false]; exact .done)
    · simp only [qcF, qt hj, cond_true, qaC hj, Option.bind_some, qmZ hln, qq (show j < 9223372036854775807 by omega)]
      simp only [qeJ, Option.bind_some, qbO]
      unfold portB
      exact Ev.okP fun _ => Ev.okP1 fun _ => hX
  unfold qgf
  rw [qhu, qhu]
  refine Ev.bind hL1 ?_
  cases allN (fun j => instB l d (gt d.Instances j)) d.Instances.length
  · exact .done
  · refine Ev.bind hL3 ?_
    cases allN (fun j => portB d (gt d.Ports j)) d.Ports.length <;> exact .done

theorem qnD {l : qz} {d : ql} (h : qgr l) (hd : qh6 d) : Ev (fun n => qgd n l d) (designB l d) := by
  have hli := hd.Instances.len
  have hlp := hd.Ports.len
  have hln := hd.Nets.len
  have hlc := h.Cells.len
  have e : designB l d = ((libB l && (decide (d.Instances.length ≤ 14) && (decide (d.Nets.length ≤ 30) && (decide (d.Ports.length ≤ 8) && (d.Instances.all (instB l d) && d.Ports.all (portB d)))))) && ((namesB (d.Instances.map qk.Name) && (namesB (d.Ports.map qV.Name) && namesB d.Nets)) && drvB d)) := by
    unfold designB hasNamesB
    generalize libB l = a1
    generalize decide (d.Instances.length ≤ 14) = a2
    generalize decide (d.Nets.length ≤ 30) = a3
    generalize decide (d.Ports.length ≤ 8) = a4
    generalize d.Instances.all (instB l d) = a5
    generalize d.Ports.all (portB d) = a6
    generalize namesB (d.Instances.map qk.Name) = a7
    generalize namesB (d.Ports.map qV.Name) = a8
    generalize namesB d.Nets = a9
    generalize drvB d = a10
    rw [Bool.eq_iff_iff]
    simp only [Bool.and_eq_true]
    constructor
    · rintro ⟨⟨h1, ⟨h2, h3, h4⟩, h7, h9, h8⟩, h5, h6, h10⟩
      exact ⟨⟨h1, h2, h3, h4, h5, h6⟩, ⟨h7, h8, h9⟩, h10⟩
    · rintro ⟨⟨h1, h2, h3, h4, h5, h6⟩, ⟨h7, h8, h9⟩, h10⟩
      exact ⟨⟨h1, ⟨h2, h3, h4⟩, h7, h9, h8⟩, h5, h6, h10⟩
  rw [e]
  unfold qgd
  refine Ev.guardB ?_ fun hb => ?_
  · refine Ev.or (qmu h) fun _ => ?_
    rw [show decide ((d.Instances.length : Int) > 14) = !decide (d.Instances.length ≤ 14) by rw [Bool.eq_iff_iff]; simp; omega, show decide ((d.Nets.length : Int) > 30) = !decide (d.Nets.length ≤ 30) by rw [Bool.eq_iff_iff]; simp; omega, show decide ((d.Ports.length : Int) > 8) = !decide (d.Ports.length ≤ 8) by rw [Bool.eq_iff_iff]; simp; omega]
    simp only [qbO]
    exact Ev.orBP fun _ => Ev.orBP fun _ => Ev.orBP fun _ => Ev.neg (qn9 h hd)
  · simp only [Bool.and_eq_true] at hb
    obtain ⟨hlib, _, _, _, hI, hP⟩ := hb
    rw [qhu, qbh] at hI hP
    have hL1 : Ev (fun n => qca d n ([] : List ByteArray) 0) (d.Instances.map qk.Name, (d.Instances.length : Int)) := by
      refine loopF (Lf := qca d) (S := fun j => (d.Instances.take j).map qk.Name) (len := d.Instances.length) (fun n => ?_) (fun j hj X hX => ?_)
      · simp only [qca, qu (Nat.le_refl _), cond_false, List.take_length]
      · simpa only [qca, qt hj, cond_true, qaC hj, Option.bind_some, qiA hj hli, qfn (g := qk.Name) hj, qq (show j < 9223372036854775807 by omega)] using hX
    have hL2 : Ev (fun n => qb7 d n ([] : List ByteArray) 0) (d.Ports.map qV.Name, (d.Ports.length : Int)) := by
      refine loopF (Lf := qb7 d) (S := fun j => (d.Ports.take j).map qV.Name) (len := d.Ports.length) (fun n => ?_) (fun j hj X hX => ?_)
      · simp only [qb7, qu (Nat.le_refl _), cond_false, List.take_length]
      · simpa only [qb7, qt hj, cond_true, qaC hj, Option.bind_some, qiA hj hlp, qfn (g := qV.Name) hj, qq (show j < 9223372036854775807 by omega)] using hX
    have hL3 : Ev (fun n => qb5 d n (vecC (fun _ => 0) d.Nets.length) 0) (vecC (fun k => drvI d k d.Instances.length) d.Nets.length, (d.Instances.length : Int)) := by
      refine loopF (Lf := qb5 d) (S := fun j => vecC (fun k => drvI d k j) d.Nets.length) (len := d.Instances.length) (fun n => ?_) (fun j hj X hX => ?_)
      · simp only [qb5, qu (Nat.le_refl _), cond_false]
      · have hxl := (qhX hd.Instances hj).Nets.len
        obtain ⟨h1, h2, h3⟩ := qlM hlib (hI j hj)
        have hc : drvI d (lastN (gt d.Instances j)).toNat j ≤ j := qfC
        obtain ⟨e1, e2⟩ := qiQ (c := fun k => drvI d k j) (c' := fun k => drvI d k (j + 1)) h2 h3 (by show drvI _ _ _ < _; omega) (fun k _ => qm4)
        simpa only [qb5, qt hj, cond_true, qaC hj, Option.bind_some, qq (show j < 9223372036854775807 by omega), qnL h1 hxl, e1, e2] using hX
    have hL4 : Ev (fun n => qbB d n (vecC (fun k => drvI d k d.Instances.length) d.Nets.length) 0) (vecC (fun k => drvI d k d.Instances.length + drvP d k d.Ports.length) d.Nets.length, (d.Ports.length : Int)) := by
      refine loopF (Lf := qbB d) (S := fun j => vecC (fun k => drvI d k d.Instances.length + drvP d k j) d.Nets.length) (len := d.Ports.length) (fun n => ?_) (fun j hj X hX => ?_)
      · simp only [qbB, qu (Nat.le_refl _), cond_false]
      · have hi := hP j hj
        unfold portB netB at hi
        simp only [Bool.and_eq_true, qdT] at hi
        have hc1 : drvI d (gt d.Ports j).Net.toNat d.Instances.length ≤ d.Instances.length := qfC
        have hc2 : drvP d (gt d.Ports j).Net.toNat j ≤ j := qfC
        simp only [qbB, qt hj, cond_true, qaC hj, Option.bind_some, qq (show j < 9223372036854775807 by omega)]
        cases h1 : ((gt d.Ports j).Dir == 1)
        · have : vecC (fun k => drvI d k d.Instances.length + drvP d k (j + 1)) d.Nets.length = vecC (fun k => drvI d k d.Instances.length + drvP d k j) d.Nets.length := by
            refine qih (fun k _ => ?_)
            rw [qjO, h1]; rfl
          rw [this] at hX
          exact hX
        · obtain ⟨e1, e2⟩ := qiQ (c := fun k => drvI d k d.Instances.length + drvP d k j) (c' := fun k => drvI d k d.Instances.length + drvP d k (j + 1)) (x := (gt d.Ports j).Net) (m := d.Nets.length) hi.2.1 (by omega) (by show drvI _ _ _ + drvP _ _ _ < _; omega) (fun k _ => by rw [qjO, h1, Bool.true_and]; omega)
          simp only [cond_true, Option.bind_some, e1, e2]
          exact hX
    have hL5 : Ev (fun n => qcA (vecC (fun _ => 0) d.Nets.length) (vecC (fun k => drvI d k d.Instances.length + drvP d k d.Ports.length) d.Nets.length) n 0) (bif drvB d then .nxt (d.Nets.length : Int) else .ret false) := by
      refine qeP ?_ (fun j hj X hX => Ev.succ ?_)
      · exact Ev.succ (by simp only [qcA, qji, qu (Nat.le_refl _), cond_false]; exact .done)
      · simp only [qcA, qji, qt hj, cond_true, qh9 hj, Option.bind_some, bne, qbO, qq (show j < 9223372036854775807 by omega)]
        exact Ev.okP1 fun _ => hX
    refine Ev.bind hL1 (Ev.bind hL2 ?_)
    refine Ev.guardB (Ev.or (qjo (qjN hd.Instances (fun x hx => hx.Name))) fun _ => Ev.or (qjo (qjN hd.Ports (fun x hx => hx.Name))) fun _ => Ev.neg (qjo hd.Nets)) fun _ => ?_
    rw [qjJ (m := d.Nets.length) (by omega)]
    simp only [Option.bind_some]
    refine Ev.bind hL3 (Ev.bind hL4 (Ev.bind hL5 ?_))
    cases drvB d <;> exact .done
end Go.Fw


namespace Go.Fw
open Go
set_option maxRecDepth 100000

theorem qqW {m k : Nat} : decide ((m : Int) < (k : Int)) = !decide (k ≤ m) := by rw [Bool.eq_iff_iff]; simp
theorem qjQ {m k : Nat} : decide ((m : Int) > (k : Int)) = !decide (m ≤ k) := by rw [Bool.eq_iff_iff]; simp
/-! ### Wires -/

def treeB (w : qP) (j : Nat) : Bool := bif decide (j = 0) then (at0 w.Parent j == -1) && (at0 w.Res j == 0) else inI (at0 w.Parent j) 0 ((j : Int) - 1)
def wireB (w : qP) (s : Int) : Bool :=
  lenB w.Parent 1 8 && (((w.Res.length : Int) == (w.Parent.length : Int)) && (((w.Cap.length : Int) == (w.Parent.length : Int)) && (allN (treeB w) w.Parent.length &&
    ((w.Res.all fun x => inI x 0 1000) && ((w.Cap.all fun x => inI x 0 500) && (((w.Sink.length : Int) == s) && (w.Sink.all fun x => inI x 0 ((w.Parent.length : Int) - 1))))))))

theorem qpU {w : qP} (hl : w.Parent.length ≤ 1048576) (hr : ((w.Res.length : Int) == (w.Parent.length : Int)) = true) : Ev (fun n => qeV n w) (allN (treeB w) w.Parent.length) := by
  rw [beq_iff_eq] at hr
  have hL : Ev (fun n => qaP w n 0) (bif allN (treeB w) w.Parent.length then .nxt (w.Parent.length : Int) else .ret false) := by
    refine qeP ?_ (fun j hj X hX => Ev.succ ?_)
    · exact Ev.succ (by simp only [qaP, qu (Nat.le_refl _), cond_false]; exact .done)
    · simp only [qaP, qt hj, cond_true, qb9 hj, Option.bind_some, qd4, qq (show j < 9223372036854775807 by omega), bne, qbO]
      unfold treeB
      by_cases h0 : j = 0
      · subst h0
        rw [show idx w.Res (0 : Int) = some (at0 w.Res 0) from qb9 (j := 0) (by omega)]
        simp only [Option.bind_some]
        refine Ev.tt (by simp) (Ev.okP fun _ => Ev.okP1 fun _ => Ev.ff (by simp) hX)
      · have e1 : decide (j = 0) = false := by simp; omega
        have e2 : ((j : Int) == 0) = false := by simp; omega
        have e3 : decide ((j : Int) > 0) = true := by simp; omega
        rw [e1, e2, e3, qc8 (show j ≤ 9223372036854775807 by omega)]
        simp only [cond_false, cond_true]
        exact Ev.okP1 fun _ => hX
  unfold qeV
  refine Ev.bind hL ?_
  cases allN (treeB w) w.Parent.length <;> exact .done

theorem qp5 {w : qP} {s : Int} (h : qkD w) : Ev (fun n => qhI n w s) (wireB w s) := by
  have hl := h.Parent.len
  simp only [qhI, qaH, Option.bind_some, qd4, qc8 (show w.Parent.length ≤ 9223372036854775807 by omega)]
  unfold wireB
  rw [show inI (w.Parent.length : Int) 1 8 = lenB w.Parent 1 8 from qnF (lo := 1) (hi := 8)]
  exact Ev.andP fun _ => Ev.andP fun hr => Ev.andP fun _ => Ev.and (qpU hl hr) fun _ => Ev.and (qfa h.Res.len) fun _ => Ev.and (qfa h.Cap.len) fun _ => Ev.andP fun _ => Ev.last (qfa h.Sink.len)

theorem qoK {w : qP} {s : Int} (h : qkD w) : Ev (fun n => qhD n w s) (wireB w s) := by
  have hl := h.Parent.len
  have hsl := h.Sink.len
  have e : wireB w s = ((decide (1 ≤ w.Parent.length) && (decide (w.Parent.length ≤ 8) && (((w.Res.length : Int) == (w.Parent.length : Int)) && (((w.Cap.length : Int) == (w.Parent.length : Int)) && ((w.Sink.length : Int) == s))))) && (allN (fun j => (inI (at0 w.Cap j) 0 500 && inI (at0 w.Res j) 0 1000) && treeB w j) w.Parent.length && (w.Sink.all fun x => inI x 0 ((w.Parent.length : Int) - 1)))) := by
    unfold wireB lenB
    cases h1 : ((w.Res.length : Int) == (w.Parent.length : Int))
    · simp
    · cases h2 : ((w.Cap.length : Int) == (w.Parent.length : Int))
      · simp
      · rw [beq_iff_eq] at h1 h2
        rw [qiN, qiN]
        rw [qg1 (p := fun x => inI x 0 1000) (d := 0), qg1 (p := fun x => inI x 0 500) (d := 0), show w.Res.length = w.Parent.length by omega, show w.Cap.length = w.Parent.length by omega]
        show _ = (_ && ((allN (fun j => inI (w.Cap.getD j 0) 0 500) _ && allN (fun j => inI (w.Res.getD j 0) 0 1000) _ && _) && _))
        generalize allN (fun j => inI (w.Cap.getD j 0) 0 500) w.Parent.length = a1
        generalize allN (fun j => inI (w.Res.getD j 0) 0 1000) w.Parent.length = a2
        generalize allN (fun j => treeB w j) w.Parent.length = a3
        generalize ((w.Sink.length : Int) == s) = a4
        generalize decide (1 ≤ w.Parent.length) = a5
        generalize decide (w.Parent.length ≤ 8) = a6
        generalize (w.Sink.all fun x => inI x 0 ((w.Parent.length : Int) - 1)) = a7
        cases a1 <;> cases a2 <;> cases a3 <;> cases a4 <;> cases a5 <;> cases a6 <;> rfl
  rw [e]
  unfold qhD
  refine Ev.guardB ?_ fun hb => ?_
  · rw [show decide ((w.Parent.length : Int) < 1) = !decide (1 ≤ w.Parent.length) from qqW (k := 1), show decide ((w.Parent.length : Int) > 8) = !decide (w.Parent.length ≤ 8) from qjQ (k := 8)]
    simp only [bne, qbO]
    exact Ev.orBP fun _ => Ev.orBP fun _ => Ev.orBP fun _ => Ev.orBP fun _ => .done
  · simp only [Bool.and_eq_true, beq_iff_eq] at hb
    have hL1 : Ev (fun n => qbT w n 0) (bif allN (fun j => (inI (at0 w.Cap j) 0 500 && inI (at0 w.Res j) 0 1000) && treeB w j) w.Parent.length then .nxt (w.Parent.length : Int) else .ret false) := by
      refine qeP ?_ (fun j hj X hX => Ev.succ ?_)
      · exact Ev.succ (by simp only [qbT, qu (Nat.le_refl _), cond_false]; exact .done)
      · simp only [qbT, qt hj, cond_true, qb9 hj, qb9 (show j < w.Cap.length by omega), qb9 (show j < w.Res.length by omega), Option.bind_some, qeJ, qq (show j < 9223372036854775807 by omega), bne, qbO]
        refine Ev.chkT (Ev.orBP fun _ => .done) fun _ => ?_
        unfold treeB
        by_cases h0 : j = 0
        · subst h0
          refine Ev.tt (by simp) (Ev.okP fun _ => Ev.okP1 fun _ => Ev.ff (by simp) hX)
        · have e1 : decide (j = 0) = false := by simp; omega
          have e2 : ((j : Int) == 0) = false := by simp; omega
          have e3 : decide ((j : Int) > 0) = true := by simp; omega
          rw [e1, e2, e3, qc8 (show j ≤ 9223372036854775807 by omega)]
          simp only [cond_false, cond_true]
          exact Ev.okP1 fun _ => hX
    have hL2 : Ev (fun n => qdu w n 0) (bif (w.Sink.all fun x => inI x 0 ((w.Parent.length : Int) - 1)) then .nxt (w.Sink.length : Int) else .ret false) :=
      qkF (fun n => by simp only [qdu, qu (Nat.le_refl _), cond_false]) (fun j hj X hX => by
        simp only [qdu, qt hj, cond_true, qgN hj, Option.bind_some, qeJ, qc8 (show w.Parent.length ≤ 9223372036854775807 by omega), qq (show j < 9223372036854775807 by omega), qbO]
        exact Ev.okP1 fun _ => hX)
    refine Ev.bind hL1 ?_
    cases allN (fun j => (inI (at0 w.Cap j) 0 500 && inI (at0 w.Res j) 0 1000) && treeB w j) w.Parent.length
    · exact .done
    · refine Ev.bind hL2 ?_
      cases (w.Sink.all fun x => inI x 0 ((w.Parent.length : Int) - 1)) <;> exact .done

/-! ### Places -/

instance : Inhabited Tplace := ⟨⟨0, 0, 0, false⟩⟩
instance : Inhabited Tl05Place := ⟨⟨0, 0, 0, false⟩⟩
def toSp (p : Tplace) : Tl05Place := ⟨p.instance_, p.pin, p.net, p.drives⟩
def plX (i : Nat) (x : qk) (j : Nat) : List Tplace := (List.range j).map fun (k : Nat) => ⟨(i : Int), (k : Int), at0 x.Nets k, decide (k + 1 = x.Nets.length)⟩
def plI (d : ql) (j : Nat) : List Tplace := (List.range j).flatMap fun (i : Nat) => plX i (gt d.Instances i) (gt d.Instances i).Nets.length
def plP (d : ql) (j : Nat) : List Tplace := (List.range j).map fun (i : Nat) => ⟨-1, (i : Int), (gt d.Ports i).Net, (gt d.Ports i).Dir == 1⟩
def places (d : ql) : List Tplace := plI d d.Instances.length ++ plP d d.Ports.length

theorem qn3 {i : Nat} {x : qk} {j : Nat} : plX i x (j + 1) = plX i x j ++ [⟨(i : Int), (j : Int), at0 x.Nets j, decide (j + 1 = x.Nets.length)⟩] := by
  unfold plX; rw [List.range_succ, List.map_append]; rfl
theorem qjp {d : ql} {j : Nat} : plI d (j + 1) = plI d j ++ plX j (gt d.Instances j) (gt d.Instances j).Nets.length := by
  unfold plI; rw [List.range_succ, List.flatMap_append]; simp
theorem qn5 {d : ql} {j : Nat} : plP d (j + 1) = plP d j ++ [⟨-1, (j : Int), (gt d.Ports j).Net, (gt d.Ports j).Dir == 1⟩] := by
  unfold plP; rw [List.range_succ, List.map_append]; rfl
theorem qlE {i : Nat} {x : qk} {j : Nat} : (plX i x j).length = j := by simp [plX]
theorem qlG {d : ql} {j : Nat} : (plP d j).length = j := by simp [plP]

/-- What a valid design says of its sizes. -/
structure smallD (d : ql) : Prop where
  ni : d.Instances.length ≤ 14
  nn : d.Nets.length ≤ 30
  np : d.Ports.length ≤ 8
  nx : ∀ i, i < d.Instances.length → 2 ≤ (gt d.Instances i).Nets.length ∧ (gt d.Instances i).Nets.length ≤ 5

theorem qcq {l : qz} {d : ql} (h : designB l d = true) : smallD d := by
  unfold designB hasNamesB libB at h
  simp only [Bool.and_eq_true, decide_eq_true_eq] at h
  obtain ⟨⟨⟨hc, _⟩, ⟨h1, h2, h3⟩, _⟩, hI, _⟩ := h
  refine ⟨h1, h2, h3, fun i hi => ?_⟩
  rw [qhu, qbh] at hI hc
  have := hI i hi
  unfold instB at this
  simp only [Bool.and_eq_true, qdT, beq_iff_eq] at this
  have h5 := qib (qmm (hc (gt d.Instances i).Cell.toNat (by omega)))
  omega
theorem qkt {d : ql} (h : smallD d) {j : Nat} (hj : j ≤ d.Instances.length) : (plI d j).length ≤ 5 * j := by
  induction j with
  | zero => exact Nat.le_refl _
  | succ j ih =>
    rw [qjp, List.length_append, qlE]
    have := ih (by omega)
    have := h.nx j (by omega)
    omega
theorem qeN {d : ql} (h : smallD d) : (places d).length ≤ 78 := by
  unfold places
  rw [List.length_append, qlG]
  have := qkt h (Nat.le_refl _)
  have := h.ni
  have := h.np
  omega

theorem qjK {d : ql} (h : smallD d) : Ev (fun n => qbQ n d) (places d) := by
  have h1 := h.ni
  have h2 := h.np
  have hL2 : ∀ i, i < d.Instances.length → ∀ pre : List Tplace, pre.length ≤ 100 → Ev (fun n => qaY (i : Int) (gt d.Instances i) n pre 0) (pre ++ plX i (gt d.Instances i) (gt d.Instances i).Nets.length, ((gt d.Instances i).Nets.length : Int)) := by
    intro i hi pre hp
    have h5 := h.nx i hi
    have := loopF (Lf := qaY (i : Int) (gt d.Instances i)) (S := fun j => pre ++ plX i (gt d.Instances i) j) (len := (gt d.Instances i).Nets.length) (fin := (pre ++ plX i (gt d.Instances i) (gt d.Instances i).Nets.length, ((gt d.Instances i).Nets.length : Int))) (fun n => by
        simp only [qaY, qu (Nat.le_refl _), cond_false])
      (fun j hj X hX => by
        have hc : (pre ++ plX i (gt d.Instances i) j).length + [(⟨(i : Int), (j : Int), at0 (gt d.Instances i).Nets j, decide (j + 1 = (gt d.Instances i).Nets.length)⟩ : Tplace)].length ≤ 2147483648 := by
          rw [List.length_append, qlE]; simp; omega
        simp only [qaY, qt hj, cond_true, qb9 hj, Option.bind_some, lastE hj (show (gt d.Instances i).Nets.length ≤ 1048576 by omega), qeI hc, List.append_assoc, ← qn3, qq (show j < 9223372036854775807 by omega)]
        exact hX)
    simpa [plX] using this
  have hL1 : Ev (fun n => qaZ d n ([] : List Tplace) 0) (plI d d.Instances.length, (d.Instances.length : Int)) := by
    refine loopF (Lf := qaZ d) (S := fun j => plI d j) (len := d.Instances.length) (fun n => ?_) (fun j hj X hX => ?_)
    · simp only [qaZ, qu (Nat.le_refl _), cond_false]
    · simp only [qaZ, qt hj, cond_true, qaC hj, Option.bind_some, qq (show j < 9223372036854775807 by omega)]
      refine Ev.bind (hL2 j hj _ (by have := qkt h (Nat.le_of_lt hj); omega)) ?_
      rw [← qjp]
      exact hX
  have hL3 : Ev (fun n => qaX d n (plI d d.Instances.length) 0) (places d, (d.Ports.length : Int)) := by
    have := loopF (Lf := qaX d) (S := fun j => plI d d.Instances.length ++ plP d j) (len := d.Ports.length) (fin := (places d, (d.Ports.length : Int))) (fun n => by
        simp only [qaX, qu (Nat.le_refl _), cond_false]; rfl)
      (fun j hj X hX => by
        have hc : (plI d d.Instances.length ++ plP d j).length + [(⟨-1, (j : Int), (gt d.Ports j).Net, (gt d.Ports j).Dir == 1⟩ : Tplace)].length ≤ 2147483648 := by
          rw [List.length_append, qlG]; have := qkt h (Nat.le_refl _); simp; omega
        simp only [qaX, qt hj, cond_true, qaC hj, Option.bind_some, qeI hc, List.append_assoc, ← qn5, qq (show j < 9223372036854775807 by omega)]
        exact hX)
    simpa [plP] using this
  unfold qbQ
  exact Ev.bind hL1 (Ev.bind hL3 .done)

theorem qkn {d : ql} (h : smallD d) : Ev (fun n => qe6 n d) ((places d).map toSp) := by
  have h1 := h.ni
  have h2 := h.np
  have hL2 : ∀ i, i < d.Instances.length → ∀ pre : List Tplace, pre.length ≤ 100 → Ev (fun n => qbJ (i : Int) (gt d.Instances i) n (pre.map toSp) 0) ((pre ++ plX i (gt d.Instances i) (gt d.Instances i).Nets.length).map toSp, ((gt d.Instances i).Nets.length : Int)) := by
    intro i hi pre hp
    have h5 := h.nx i hi
    have := loopF (Lf := qbJ (i : Int) (gt d.Instances i)) (S := fun j => (pre ++ plX i (gt d.Instances i) j).map toSp) (len := (gt d.Instances i).Nets.length) (fin := ((pre ++ plX i (gt d.Instances i) (gt d.Instances i).Nets.length).map toSp, ((gt d.Instances i).Nets.length : Int))) (fun n => by
        simp only [qbJ, qu (Nat.le_refl _), cond_false])
      (fun j hj X hX => by
        have hc : ((pre ++ plX i (gt d.Instances i) j).map toSp).length + [(⟨(i : Int), (j : Int), at0 (gt d.Instances i).Nets j, decide (j + 1 = (gt d.Instances i).Nets.length)⟩ : Tl05Place)].length ≤ 2147483648 := by
          rw [List.length_map, List.length_append, qlE]; simp; omega
        simp only [qbJ, qt hj, cond_true, qb9 hj, Option.bind_some, lastE hj (show (gt d.Instances i).Nets.length ≤ 1048576 by omega), qeI hc, qq (show j < 9223372036854775807 by omega)]
        rw [qn3, ← List.append_assoc, List.map_append] at hX
        exact hX)
    simpa [plX] using this
  have hL1 : Ev (fun n => qbM d n ([] : List Tl05Place) 0) ((plI d d.Instances.length).map toSp, (d.Instances.length : Int)) := by
    refine loopF (Lf := qbM d) (S := fun j => (plI d j).map toSp) (len := d.Instances.length) (fun n => ?_) (fun j hj X hX => ?_)
    · simp only [qbM, qu (Nat.le_refl _), cond_false]
    · simp only [qbM, qt hj, cond_true, qaC hj, Option.bind_some, qq (show j < 9223372036854775807 by omega)]
      refine Ev.bind (hL2 j hj _ (by have := qkt h (Nat.le_of_lt hj); omega)) ?_
      rw [← qjp]
      exact hX
  have hL3 : Ev (fun n => qbL d n ((plI d d.Instances.length).map toSp) 0) ((places d).map toSp, (d.Ports.length : Int)) := by
    have := loopF (Lf := qbL d) (S := fun j => (plI d d.Instances.length ++ plP d j).map toSp) (len := d.Ports.length) (fin := ((places d).map toSp, (d.Ports.length : Int))) (fun n => by
        simp only [qbL, qu (Nat.le_refl _), cond_false]; rfl)
      (fun j hj X hX => by
        have hc : ((plI d d.Instances.length ++ plP d j).map toSp).length + [(⟨-1, (j : Int), (gt d.Ports j).Net, (gt d.Ports j).Dir == 1⟩ : Tl05Place)].length ≤ 2147483648 := by
          rw [List.length_map, List.length_append, qlG]; have := qkt h (Nat.le_refl _); simp; omega
        simp only [qbL, qt hj, cond_true, qaC hj, Option.bind_some, qeI hc, qq (show j < 9223372036854775807 by omega)]
        rw [qn5, ← List.append_assoc, List.map_append] at hX
        exact hX)
    simpa [plP] using this
  unfold qe6
  exact Ev.bind hL1 (Ev.bind hL3 .done)

def snkQ (d : ql) (k : Int) (i : Nat) : Bool := ((gt (places d) i).net == k) && !(gt (places d) i).drives
def sinksL (d : ql) (k : Int) (j : Nat) : List Int := ((List.range j).filter (snkQ d k)).map fun (i : Nat) => (i : Int)
def snkN (d : ql) (k : Int) : Nat := cntP (snkQ d k) (places d).length
theorem qjf {d : ql} {k : Int} {j : Nat} : sinksL d k (j + 1) = sinksL d k j ++ (bif snkQ d k j then [(j : Int)] else []) := by
  unfold sinksL
  rw [List.range_succ, List.filter_append, List.map_append]
  congr 1
  cases h : snkQ d k j <;> simp [h]
theorem qhi {d : ql} {k : Int} {j : Nat} : (sinksL d k j).length = cntP (snkQ d k) j := by
  induction j with
  | zero => rfl
  | succ j ih =>
    rw [qjf, List.length_append, ih]
    show _ = cntP (snkQ d k) j + _
    congr 1
    cases snkQ d k j <;> rfl
theorem qrE {α β : Type} [Inhabited α] [Inhabited β] {xs : List α} {g : α → β} {j : Nat} (h : j < xs.length) : gt (xs.map g) j = g (gt xs j) := by
  rw [qjh (by simpa using h), qjh h]; simp

theorem qn0 {d : ql} {k : Int} (h : smallD d) : Ev (fun n => qgc n d k) (sinksL d k (places d).length) := by
  have hl := qeN h
  have hL : Ev (fun n => qbz k ((places d).map toSp) n ([] : List Int) 0) (sinksL d k (places d).length, ((places d).length : Int)) := by
    refine loopF (Lf := qbz k ((places d).map toSp)) (S := fun j => sinksL d k j) (len := (places d).length) (fun n => ?_) (fun j hj X hX => ?_)
    · simp only [qbz, List.length_map, qu (Nat.le_refl _), cond_false]
    · have hj' : j < ((places d).map toSp).length := by simpa using hj
      have hc : (sinksL d k j).length + [(j : Int)].length ≤ 2147483648 := by
        rw [qhi]
        have : cntP (snkQ d k) j ≤ j := qfC
        simp; omega
      simp only [qbz, qt hj', cond_true, qaC hj', qrE hj, Option.bind_some, qq (show j < 9223372036854775807 by omega)]
      rw [show ∀ p : Tplace, (toSp p).net = p.net from fun _ => rfl, show ∀ p : Tplace, (toSp p).drives = p.drives from fun _ => rfl]
      refine Ev.bind (b := snkQ d k j) (Ev.andP fun _ => .done) ?_
      rw [qjf] at hX
      cases hq : snkQ d k j
      · rw [hq] at hX
        simp only [cond_false, List.append_nil] at hX ⊢
        exact hX
      · rw [hq] at hX
        simp only [cond_true, qeI hc, Option.bind_some] at hX ⊢
        exact hX
  unfold qgc
  exact Ev.bind (qkn h) (Ev.bind hL .done)

theorem ql0 {l : qz} {d : ql} (h : designB l d = true) {i : Nat} (hi : i < (places d).length) : 0 ≤ (gt (places d) i).net ∧ (gt (places d) i).net < d.Nets.length := by
  unfold designB at h
  simp only [Bool.and_eq_true] at h
  obtain ⟨_, hI, hP, _⟩ := h
  rw [qhu, qbh] at hI hP
  have hm : gt (places d) i ∈ places d := by rw [qjh hi]; exact List.getElem_mem hi
  generalize gt (places d) i = p at hm
  unfold places at hm
  rcases List.mem_append.1 hm with hm | hm
  · unfold plI at hm
    obtain ⟨i, hi, hm⟩ := List.mem_flatMap.1 hm
    unfold plX at hm
    obtain ⟨k, hk, rfl⟩ := List.mem_map.1 hm
    have := hI i (List.mem_range.1 hi)
    unfold instB at this
    simp only [Bool.and_eq_true] at this
    have h3 := this.2.2
    rw [qg1 (d := 0), qbh] at h3
    have h4 := h3 k (List.mem_range.1 hk)
    unfold netB at h4
    rw [qdT] at h4
    show 0 ≤ at0 _ _ ∧ at0 _ _ < _
    unfold at0
    omega
  · unfold plP at hm
    obtain ⟨i, hi, rfl⟩ := List.mem_map.1 hm
    have := hP i (List.mem_range.1 hi)
    unfold portB netB at this
    simp only [Bool.and_eq_true, qdT] at this
    show 0 ≤ (gt d.Ports i).Net ∧ (gt d.Ports i).Net < _
    omega

/-! ### Blocks -/

def blockB (b : qF) : Bool := (designB b.Library b.Design && ((b.Wires.length : Int) == (b.Design.Nets.length : Int))) && allN (fun j => wireB (gt b.Wires j) (snkN b.Design (j : Int))) b.Wires.length

theorem qmc {b : qF} (h : qgV b) : Ev (fun n => qgP n b) (blockB b) := by
  have hwl := h.Wires.len
  unfold qgP blockB
  refine Ev.guardB (Ev.or (qnQ h.Library h.Design) fun _ => .done) fun hb => ?_
  rw [Bool.and_eq_true, beq_iff_eq] at hb
  obtain ⟨hd, hw⟩ := hb
  have hs := qcq hd
  have hl := qeN hs
  have hn := hs.nn
  rw [qjJ (m := b.Wires.length) (by omega)]
  simp only [Option.bind_some]
  have hL1 : Ev (fun n => qb1 (places b.Design) n (vecC (fun _ => 0) b.Wires.length) 0) (vecC (fun k => snkN b.Design (k : Int)) b.Wires.length, ((places b.Design).length : Int)) := by
    refine loopF (Lf := qb1 (places b.Design)) (S := fun j => vecC (fun k => cntP (snkQ b.Design (k : Int)) j) b.Wires.length) (len := (places b.Design).length) (fun n => ?_) (fun j hj X hX => ?_)
    · simp only [qb1, qu (Nat.le_refl _), cond_false]; rfl
    · simp only [qb1, qt hj, cond_true, qaC hj, Option.bind_some, qq (show j < 9223372036854775807 by omega)]
      obtain ⟨n0, n1⟩ := ql0 hd hj
      cases h1 : (gt (places b.Design) j).drives
      · have hc : cntP (snkQ b.Design (((gt (places b.Design) j).net.toNat : Nat) : Int)) j ≤ j := qfC
        obtain ⟨e1, e2⟩ := qiQ (c := fun k => cntP (snkQ b.Design (k : Int)) j) (c' := fun k => cntP (snkQ b.Design (k : Int)) (j + 1)) (x := (gt (places b.Design) j).net) (m := b.Wires.length) n0 (by omega) (by show cntP _ _ < _; omega) (fun k _ => by
          show cntP _ j + (bif snkQ b.Design (k : Int) j then 1 else 0) = _
          unfold snkQ
          rw [h1, Bool.not_false, Bool.and_true])
        simp only [Bool.not_false, cond_true, Option.bind_some, e1, e2]
        exact hX
      · have : vecC (fun k => cntP (snkQ b.Design (k : Int)) (j + 1)) b.Wires.length = vecC (fun k => cntP (snkQ b.Design (k : Int)) j) b.Wires.length := by
          refine qih (fun k _ => ?_)
          show cntP _ j + (bif snkQ b.Design (k : Int) j then 1 else 0) = _
          unfold snkQ
          rw [h1, Bool.not_true, Bool.and_false]; rfl
        rw [this] at hX
        exact hX
  have hL2 : Ev (fun n => qcV b (vecC (fun k => snkN b.Design (k : Int)) b.Wires.length) n 0) (bif allN (fun j => wireB (gt b.Wires j) (snkN b.Design (j : Int))) b.Wires.length then .nxt (b.Wires.length : Int) else .ret false) := by
    refine qeP ?_ (fun j hj X hX => Ev.succ ?_)
    · exact Ev.succ (by simp only [qcV, qu (Nat.le_refl _), cond_false]; exact .done)
    · simp only [qcV, qt hj, cond_true, qaC hj, qh9 hj, Option.bind_some, qq (show j < 9223372036854775807 by omega)]
      exact Ev.chk1 (qp5 (qhX h.Wires hj)) fun _ => hX
  refine Ev.bind (qjK hs) (Ev.bind hL1 (Ev.bind hL2 ?_))
  cases allN (fun j => wireB (gt b.Wires j) (snkN b.Design (j : Int))) b.Wires.length <;> exact .done

theorem qk6 {b : qF} (h : qgV b) : Ev (fun n => qfU n b) (blockB b) := by
  have hwl := h.Wires.len
  unfold qfU blockB
  refine Ev.guardB (Ev.or (qnD h.Library h.Design) fun _ => .done) fun hb => ?_
  rw [Bool.and_eq_true] at hb
  have hs := qcq hb.1
  have hL : Ev (fun n => qcZ b n 0) (bif allN (fun j => wireB (gt b.Wires j) (snkN b.Design (j : Int))) b.Wires.length then .nxt (b.Wires.length : Int) else .ret false) := by
    refine qeP ?_ (fun j hj X hX => Ev.succ ?_)
    · exact Ev.succ (by simp only [qcZ, qu (Nat.le_refl _), cond_false]; exact .done)
    · simp only [qcZ, qt hj, cond_true, qaC hj, Option.bind_some, qq (show j < 9223372036854775807 by omega)]
      refine Ev.bind (qn0 hs) ?_
      rw [qhi]
      exact Ev.chk1 (qoK (qhX h.Wires hj)) fun _ => hX
  refine Ev.bind hL ?_
  cases allN (fun j => wireB (gt b.Wires j) (snkN b.Design (j : Int))) b.Wires.length <;> exact .done
end Go.Fw
