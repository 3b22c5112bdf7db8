/- By a program of mine (gen.py): for each function a plain function and the proof that the code computes it. -/
import Derived.Test.YtihkipojhdehnaaGreatDoorA1

namespace Go.Fw
open Go Go.Proofs
open Go.RowKit (Below)
set_option maxRecDepth 100000
set_option maxHeartbeats 1600000
def qdE (a : (List Int)) (b : (List Int)) : Nat → Int → Option (Flow Bool Int)
 | 0, _ => none
 | n + 1, i1 =>
  bif decide (i1 < (a.length : Int)) then
   (idx a i1).bind fun y1 =>
   (idx b i1).bind fun y2 =>
   bif (y1 != y2) then
    some (.ret false)
   else
    qdE a b n (W64 (i1 + 1))
  else
   some (.nxt i1)

def qaJ (n : Nat) (a : (List Int)) (b : (List Int)) : Option Bool :=
 bif ((a.length : Int) != (b.length : Int)) then
  some false
 else
  (qdE a b n 0).bind fun o => match o with
  | .ret r => some r
  | .nxt _ =>
   some true

theorem qaF {n : Nat} {w : World} {a : (List Int)} {b : (List Int)} {cs1 : List Value} (ha1 : GoT.R w (old w) a cs1) {cs2 : List Value} (ha2 : GoT.R w (old w) b cs2) {r : Bool} (hF : qaJ n a b = some r) : RetV Tryz.prog 19 [GoT.v (List Int) cs1, GoT.v (List Int) cs2] w r := by
 obtain ⟨p1, k1, rfl, s1⟩ := ha1
 obtain ⟨p2, k2, rfl, s2⟩ := ha2
 refine qe Tryz.func19 rfl (m := 26) rfl rfl (fun h => ?_)
 rw [qaJ] at hF
 refine zSR (zp1 rfl (zNSSR (zp5 rfl ?_)))
 refine qb ?_
 refine qr rfl hF ?_ ?_ <;> intro hF
 ·exact zSR (zp1 rfl (qb (qy qc h hF ⟨rfl, trivial⟩)))
 refine zKSSR (zp1 rfl (qb ?_))
 obtain ⟨o1, hF, hK1⟩ := qd hF
 refine qw (qP [(0, _), (1, _), (5, _)] ⟨rfl, rfl, rfl, trivial⟩ ?_)
 refine qH (fun m e w' => ∃ (i1 : Int), qdE a b m i1 = some o1 ∧ e = [(0, .slice p1 a.length k1), (1, .slice p2 b.length k2), (5, .int .i64 i1)] ∧ SH w w' []) n ⟨_, hF, rfl, h⟩ ?_
 rintro m1 e1 w1 ⟨i1, hF, rfl, h⟩
 rcases m1 with _ | m1
 ·rw [qdE] at hF
  cases hF
 rw [qdE] at hF
 refine zSSR (zp4 rfl (qb ?_))
 refine qr rfl hF ?_ ?_ <;> intro hF
 ·refine zKSB (qbq ?_)
  refine qcN rfl (by kernel_rfl) ?_
  refine zd2 rfl ?_
  obtain ⟨y1, hy1, hF⟩ := qd hF
  have he1 := qf hy1
  obtain ⟨b1, o_1, q1, cs3, hp1, hq1, -, hr1, hc3⟩ := s1.at hy1
  obtain rfl := hr1
  refine zdxe hp1 hq1 he1 rfl ?_
  refine zdc 0 (hc3.below h.below) rfl ?_
  refine zd2 rfl ?_
  obtain ⟨y2, hy2, hF⟩ := qd hF
  have he2 := qf hy2
  obtain ⟨b2, o_2, q2, cs4, hp2, hq2, -, hr2, hc4⟩ := s2.at hy2
  obtain rfl := hr2
  refine zdxe hp2 hq2 he2 rfl ?_
  refine zdc 0 (hc4.below h.below) rfl ?_
  refine zd1 rfl ?_
  refine qbj (fun w2 hb => ?_)
  replace h := h.ext hb
  clear hb
  refine qr rfl hF ?_ ?_ <;> intro hF
  ·refine zSR (zp1 rfl (qb ?_))
   obtain rfl := qh hF; replace hF := hK1
   exact qy qc h hF ⟨rfl, trivial⟩
  exact zKER (zp3 rfl (qb (qA m1 [(0, _), (1, _), (5, _)] (Nat.lt_succ_self m1) ⟨rfl, rfl, rfl, trivial⟩ ⟨_, hF, rfl, h⟩)))
 refine qG rfl ?_
 obtain rfl := qh hF; replace hF := hK1
 exact zSR (zp1 rfl (qb (qy qc h hF ⟨rfl, trivial⟩)))

def qh8 (_ : Nat) (a : qan) (b : qan) : Option Bool :=
 bif (a.Name.toList != b.Name.toList) then
  some false
 else
  bif (a.Dir != b.Dir) then
   some false
  else
   bif (a.Cap != b.Cap) then
    some false
   else
    bif (!(a.Clock == b.Clock)) then
     some false
    else
     some true

theorem qnH {n : Nat} {w : World} {a : qan} {b : qan} {cs1 : List Value} (ha1 : GoT.R w (old w) a cs1) {cs2 : List Value} (ha2 : GoT.R w (old w) b cs2) {r : Bool} (hF : qh8 n a b = some r) : RetV Tryz.prog 200 [GoT.v qan cs1, GoT.v qan cs2] w r := by
 obtain rfl := qa5 ha1
 obtain rfl := qa5 ha2
 refine qe Tryz.func200 rfl (m := 25) rfl rfl (fun h => ?_)
 rw [qh8] at hF
 refine zSR (qN h rfl rfl ?_)
 intro w1 bb1 h
 refine qN h rfl rfl ?_
 intro w2 bb2 h
 refine zp1 rfl (zNSSR (zp1 rfl (zl 1 0 h rfl (zp1 rfl (zl 0 0 h rfl (zp1 rfl (qb ?_)))))))
 refine qr rfl hF ?_ ?_ <;> intro hF
 ·exact zSR (zp1 rfl (qb (qy qc h hF ⟨rfl, trivial⟩)))
 refine zKSSR (zp1 rfl (zl 1 1 h rfl (zp1 rfl (zl 0 1 h rfl (zp1 rfl (qb ?_))))))
 refine qr rfl hF ?_ ?_ <;> intro hF
 ·exact zSR (zp1 rfl (qb (qy qc h hF ⟨rfl, trivial⟩)))
 refine zKSSR (zp1 rfl (zl 1 2 h rfl (zp1 rfl (zl 0 2 h rfl (zp1 rfl (qb ?_))))))
 refine qr rfl hF ?_ ?_ <;> intro hF
 ·exact zSR (zp1 rfl (qb (qy qc h hF ⟨rfl, trivial⟩)))
 refine zKSSR (zp1 rfl (zl 1 3 h rfl (zp1 rfl (zl 0 3 h rfl (zp1 rfl (qb ?_))))))
 refine qr rfl hF ?_ ?_ <;> intro hF
 ·exact zSR (zp1 rfl (qb (qy qc h hF ⟨rfl, trivial⟩)))
 exact zKSR (zp1 rfl (qb (qy qc h hF ⟨rfl, trivial⟩)))

def qeJ (a : (List qan)) (b : (List qan)) : Nat → Int → Option (Flow Bool Int)
 | 0, _ => none
 | n + 1, i1 =>
  bif decide (i1 < (a.length : Int)) then
   (idx a i1).bind fun y1 =>
   (idx b i1).bind fun y2 =>
   (qh8 n y1 y2).bind fun r1 =>
   bif (!r1) then
    some (.ret false)
   else
    qeJ a b n (W64 (i1 + 1))
  else
   some (.nxt i1)

def qio (n : Nat) (a : (List qan)) (b : (List qan)) : Option Bool :=
 bif ((a.length : Int) != (b.length : Int)) then
  some false
 else
  (qeJ a b n 0).bind fun o => match o with
  | .ret r => some r
  | .nxt _ =>
   some true

theorem qna {n : Nat} {w : World} {a : (List qan)} {b : (List qan)} {cs1 : List Value} (ha1 : GoT.R w (old w) a cs1) {cs2 : List Value} (ha2 : GoT.R w (old w) b cs2) {r : Bool} (hF : qio n a b = some r) : RetV Tryz.prog 173 [GoT.v (List qan) cs1, GoT.v (List qan) cs2] w r := by
 obtain ⟨p1, k1, rfl, s1⟩ := ha1
 obtain ⟨p2, k2, rfl, s2⟩ := ha2
 refine qe Tryz.func173 rfl (m := 27) rfl rfl (fun h => ?_)
 rw [qio] at hF
 refine zSR (zp1 rfl (zNSSR (zp5 rfl ?_)))
 refine qb ?_
 refine qr rfl hF ?_ ?_ <;> intro hF
 ·exact zSR (zp1 rfl (qb (qy qc h hF ⟨rfl, trivial⟩)))
 refine zKSSR (zp1 rfl (qb ?_))
 obtain ⟨o1, hF, hK1⟩ := qd hF
 refine qw (qP [(0, _), (1, _), (5, _)] ⟨rfl, rfl, rfl, trivial⟩ ?_)
 refine qH (fun m e w' => ∃ (i1 : Int), qeJ a b m i1 = some o1 ∧ e = [(0, .slice p1 a.length k1), (1, .slice p2 b.length k2), (5, .int .i64 i1)] ∧ SH w w' []) n ⟨_, hF, rfl, h⟩ ?_
 rintro m1 e1 w1 ⟨i1, hF, rfl, h⟩
 rcases m1 with _ | m1
 ·rw [qeJ] at hF
  cases hF
 rw [qeJ] at hF
 refine zSSR (zp4 rfl (qb ?_))
 refine qr rfl hF ?_ ?_ <;> intro hF
 ·refine zKSB (qbq ?_)
  refine qcN rfl (by kernel_rfl) ?_
  refine zd2 rfl ?_
  obtain ⟨y1, hy1, hF⟩ := qd hF
  have he1 := qf hy1
  obtain ⟨b1, o_1, q1, cs3, hp1, hq1, -, hr1, hc3⟩ := s1.at hy1
  obtain rfl := qa5 hr1
  refine zdxe hp1 hq1 he1 rfl ?_
  refine zdc 0 (hc3.below h.below) rfl ?_
  refine zd2 rfl ?_
  obtain ⟨y2, hy2, hF⟩ := qd hF
  have he2 := qf hy2
  obtain ⟨b2, o_2, q2, cs4, hp2, hq2, -, hr2, hc4⟩ := s2.at hy2
  obtain rfl := qa5 hr2
  refine zdxe hp2 hq2 he2 rfl ?_
  refine zdc 0 (hc4.below h.below) rfl ?_
  obtain ⟨r1, hr3, hF⟩ := qd hF
  refine qcO r1 (vsB _) call200 (fun _ hb => qnH (qeg y1) (qeg y2) hr3) rfl rfl rfl rfl ?_
  refine zd1 rfl ?_
  refine qbj (fun w2 hb => ?_)
  replace h := h.ext hb
  clear hb
  refine qr rfl hF ?_ ?_ <;> intro hF
  ·refine zSR (zp1 rfl (qb ?_))
   obtain rfl := qh hF; replace hF := hK1
   exact qy qc h hF ⟨rfl, trivial⟩
  exact zKER (zp3 rfl (qb (qA m1 [(0, _), (1, _), (5, _)] (Nat.lt_succ_self m1) ⟨rfl, rfl, rfl, trivial⟩ ⟨_, hF, rfl, h⟩)))
 refine qG rfl ?_
 obtain rfl := qh hF; replace hF := hK1
 exact zSR (zp1 rfl (qb (qy qc h hF ⟨rfl, trivial⟩)))

def qgA (n : Nat) (a : qF) (b : qF) : Option Bool :=
 (qaJ n a.Slews b.Slews).bind fun r1 =>
 bif (!r1) then
  some false
 else
  (qaJ n a.Loads b.Loads).bind fun r2 =>
  bif (!r2) then
   some false
  else
   (qaJ n a.Values b.Values).bind fun r3 =>
   bif (!r3) then
    some false
   else
    some true

theorem qmv {n : Nat} {w : World} {a : qF} {b : qF} {cs1 : List Value} (ha1 : GoT.R w (old w) a cs1) {cs2 : List Value} (ha2 : GoT.R w (old w) b cs2) {r : Bool} (hF : qgA n a b = some r) : RetV Tryz.prog 226 [GoT.v qF cs1, GoT.v qF cs2] w r := by
 obtain ⟨p1, k1, p2, k2, p3, k3, rfl, s1, s2, s3⟩ := qbF ha1
 obtain ⟨p4, k4, p5, k5, p6, k6, rfl, s4, s5, s6⟩ := qbF ha2
 refine qe Tryz.func226 rfl (m := 23) rfl rfl (fun h => ?_)
 rw [qgA] at hF
 refine zSR (qN h rfl rfl ?_)
 intro w1 bb1 h
 refine qN h rfl rfl ?_
 intro w2 bb2 h
 refine zp1 rfl (zNSSR (zp1 rfl (zl 1 0 h rfl (zp1 rfl (zl 0 0 h rfl ?_)))))
 obtain ⟨r1, hr1, hF⟩ := qd hF
 refine qp r1 h call19 (qaF ⟨_, _, rfl, (h.oldS s1)⟩ ⟨_, _, rfl, (h.oldS s4)⟩ hr1) rfl rfl rfl rfl ?_
 intro w3 h
 refine zp1 rfl (qb ?_)
 refine qr rfl hF ?_ ?_ <;> intro hF
 ·exact zSR (zp1 rfl (qb (qy qc h hF ⟨rfl, trivial⟩)))
 refine zKSSR (zp1 rfl (zl 1 1 h rfl (zp1 rfl (zl 0 1 h rfl ?_))))
 obtain ⟨r2, hr2, hF⟩ := qd hF
 refine qp r2 h call19 (qaF ⟨_, _, rfl, (h.oldS s2)⟩ ⟨_, _, rfl, (h.oldS s5)⟩ hr2) rfl rfl rfl rfl ?_
 intro w4 h
 refine zp1 rfl (qb ?_)
 refine qr rfl hF ?_ ?_ <;> intro hF
 ·exact zSR (zp1 rfl (qb (qy qc h hF ⟨rfl, trivial⟩)))
 refine zKSSR (zp1 rfl (zl 1 2 h rfl (zp1 rfl (zl 0 2 h rfl ?_))))
 obtain ⟨r3, hr3, hF⟩ := qd hF
 refine qp r3 h call19 (qaF ⟨_, _, rfl, (h.oldS s3)⟩ ⟨_, _, rfl, (h.oldS s6)⟩ hr3) rfl rfl rfl rfl ?_
 intro w5 h
 refine zp1 rfl (qb ?_)
 refine qr rfl hF ?_ ?_ <;> intro hF
 ·exact zSR (zp1 rfl (qb (qy qc h hF ⟨rfl, trivial⟩)))
 exact zKSR (zp1 rfl (qb (qy qc h hF ⟨rfl, trivial⟩)))

def qdF (a : (List qF)) (b : (List qF)) : Nat → Int → Option (Flow Bool Int)
 | 0, _ => none
 | n + 1, i1 =>
  bif decide (i1 < (a.length : Int)) then
   (idx a i1).bind fun y1 =>
   (idx b i1).bind fun y2 =>
   (qgA n y1 y2).bind fun r1 =>
   bif (!r1) then
    some (.ret false)
   else
    qdF a b n (W64 (i1 + 1))
  else
   some (.nxt i1)

def qf2 (n : Nat) (a : (List qF)) (b : (List qF)) : Option Bool :=
 bif ((a.length : Int) != (b.length : Int)) then
  some false
 else
  (qdF a b n 0).bind fun o => match o with
  | .ret r => some r
  | .nxt _ =>
   some true

theorem qjj {n : Nat} {w : World} {a : (List qF)} {b : (List qF)} {cs1 : List Value} (ha1 : GoT.R w (old w) a cs1) {cs2 : List Value} (ha2 : GoT.R w (old w) b cs2) {r : Bool} (hF : qf2 n a b = some r) : RetV Tryz.prog 214 [GoT.v (List qF) cs1, GoT.v (List qF) cs2] w r := by
 obtain ⟨p1, k1, rfl, s1⟩ := ha1
 obtain ⟨p2, k2, rfl, s2⟩ := ha2
 refine qe Tryz.func214 rfl (m := 27) rfl rfl (fun h => ?_)
 rw [qf2] at hF
 refine zSR (zp1 rfl (zNSSR (zp5 rfl ?_)))
 refine qb ?_
 refine qr rfl hF ?_ ?_ <;> intro hF
 ·exact zSR (zp1 rfl (qb (qy qc h hF ⟨rfl, trivial⟩)))
 refine zKSSR (zp1 rfl (qb ?_))
 obtain ⟨o1, hF, hK1⟩ := qd hF
 refine qw (qP [(0, _), (1, _), (5, _)] ⟨rfl, rfl, rfl, trivial⟩ ?_)
 refine qH (fun m e w' => ∃ (i1 : Int), qdF a b m i1 = some o1 ∧ e = [(0, .slice p1 a.length k1), (1, .slice p2 b.length k2), (5, .int .i64 i1)] ∧ SH w w' []) n ⟨_, hF, rfl, h⟩ ?_
 rintro m1 e1 w1 ⟨i1, hF, rfl, h⟩
 rcases m1 with _ | m1
 ·rw [qdF] at hF
  cases hF
 rw [qdF] at hF
 refine zSSR (zp4 rfl (qb ?_))
 refine qr rfl hF ?_ ?_ <;> intro hF
 ·refine zKSB (qbq ?_)
  refine qcN rfl (by kernel_rfl) ?_
  refine zd2 rfl ?_
  obtain ⟨y1, hy1, hF⟩ := qd hF
  have he1 := qf hy1
  obtain ⟨b1, o_1, q1, cs3, hp1, hq1, -, hr1, hc3⟩ := s1.at hy1
  obtain ⟨p3, k3, p4, k4, p5, k5, rfl, s3, s4, s5⟩ := qbF hr1
  refine zdxe hp1 hq1 he1 rfl ?_
  refine zdc 0 (hc3.below h.below) rfl ?_
  refine zd2 rfl ?_
  obtain ⟨y2, hy2, hF⟩ := qd hF
  have he2 := qf hy2
  obtain ⟨b2, o_2, q2, cs4, hp2, hq2, -, hr2, hc4⟩ := s2.at hy2
  obtain ⟨p6, k6, p7, k7, p8, k8, rfl, s6, s7, s8⟩ := qbF hr2
  refine zdxe hp2 hq2 he2 rfl ?_
  refine zdc 0 (hc4.below h.below) rfl ?_
  obtain ⟨r1, hr3, hF⟩ := qd hF
  refine qcO r1 (vsB _) call226 (fun _ hb => qmv (qh0 y1 ((h.ext hb).oldS s3) ((h.ext hb).oldS s4) ((h.ext hb).oldS s5)) (qh0 y2 ((h.ext hb).oldS s6) ((h.ext hb).oldS s7) ((h.ext hb).oldS s8)) hr3) rfl rfl rfl rfl ?_
  refine zd1 rfl ?_
  refine qbj (fun w2 hb => ?_)
  replace h := h.ext hb
  clear hb
  refine qr rfl hF ?_ ?_ <;> intro hF
  ·refine zSR (zp1 rfl (qb ?_))
   obtain rfl := qh hF; replace hF := hK1
   exact qy qc h hF ⟨rfl, trivial⟩
  exact zKER (zp3 rfl (qb (qA m1 [(0, _), (1, _), (5, _)] (Nat.lt_succ_self m1) ⟨rfl, rfl, rfl, trivial⟩ ⟨_, hF, rfl, h⟩)))
 refine qG rfl ?_
 obtain rfl := qh hF; replace hF := hK1
 exact zSR (zp1 rfl (qb (qy qc h hF ⟨rfl, trivial⟩)))

def qhZ (n : Nat) (a : qV) (b : qV) : Option Bool :=
 bif (a.Kind != b.Kind) then
  some false
 else
  bif (a.From != b.From) then
   some false
  else
   bif (a.To != b.To) then
    some false
   else
    bif (a.Sense != b.Sense) then
     some false
    else
     (qf2 n a.Delay b.Delay).bind fun r1 =>
     bif (!r1) then
      some false
     else
      (qf2 n a.Slew b.Slew).bind fun r2 =>
      bif (!r2) then
       some false
      else
       some true

theorem qns {n : Nat} {w : World} {a : qV} {b : qV} {cs1 : List Value} (ha1 : GoT.R w (old w) a cs1) {cs2 : List Value} (ha2 : GoT.R w (old w) b cs2) {r : Bool} (hF : qhZ n a b = some r) : RetV Tryz.prog 201 [GoT.v qV cs1, GoT.v qV cs2] w r := by
 obtain ⟨p1, k1, p2, k2, rfl, s1, s2⟩ := qaH ha1
 obtain ⟨p3, k3, p4, k4, rfl, s3, s4⟩ := qaH ha2
 refine qe Tryz.func201 rfl (m := 37) rfl rfl (fun h => ?_)
 rw [qhZ] at hF
 refine zSR (qN h rfl rfl ?_)
 intro w1 bb1 h
 refine qN h rfl rfl ?_
 intro w2 bb2 h
 refine zp1 rfl (zNSSR (zp1 rfl (zl 1 0 h rfl (zp1 rfl (zl 0 0 h rfl (zp1 rfl (qb ?_)))))))
 refine qr rfl hF ?_ ?_ <;> intro hF
 ·exact zSR (zp1 rfl (qb (qy qc h hF ⟨rfl, trivial⟩)))
 refine zKSSR (zp1 rfl (zl 1 1 h rfl (zp1 rfl (zl 0 1 h rfl (zp1 rfl (qb ?_))))))
 refine qr rfl hF ?_ ?_ <;> intro hF
 ·exact zSR (zp1 rfl (qb (qy qc h hF ⟨rfl, trivial⟩)))
 refine zKSSR (zp1 rfl (zl 1 2 h rfl (zp1 rfl (zl 0 2 h rfl (zp1 rfl (qb ?_))))))
 refine qr rfl hF ?_ ?_ <;> intro hF
 ·exact zSR (zp1 rfl (qb (qy qc h hF ⟨rfl, trivial⟩)))
 refine zKSSR (zp1 rfl (zl 1 3 h rfl (zp1 rfl (zl 0 3 h rfl (zp1 rfl (qb ?_))))))
 refine qr rfl hF ?_ ?_ <;> intro hF
 ·exact zSR (zp1 rfl (qb (qy qc h hF ⟨rfl, trivial⟩)))
 refine zKSSR (zp1 rfl (zl 1 4 h rfl (zp1 rfl (zl 0 4 h rfl ?_))))
 obtain ⟨r1, hr1, hF⟩ := qd hF
 refine qp r1 h call214 (qjj ⟨_, _, rfl, (h.oldS s1)⟩ ⟨_, _, rfl, (h.oldS s3)⟩ hr1) rfl rfl rfl rfl ?_
 intro w3 h
 refine zp1 rfl (qb ?_)
 refine qr rfl hF ?_ ?_ <;> intro hF
 ·exact zSR (zp1 rfl (qb (qy qc h hF ⟨rfl, trivial⟩)))
 refine zKSSR (zp1 rfl (zl 1 5 h rfl (zp1 rfl (zl 0 5 h rfl ?_))))
 obtain ⟨r2, hr2, hF⟩ := qd hF
 refine qp r2 h call214 (qjj ⟨_, _, rfl, (h.oldS s2)⟩ ⟨_, _, rfl, (h.oldS s4)⟩ hr2) rfl rfl rfl rfl ?_
 intro w4 h
 refine zp1 rfl (qb ?_)
 refine qr rfl hF ?_ ?_ <;> intro hF
 ·exact zSR (zp1 rfl (qb (qy qc h hF ⟨rfl, trivial⟩)))
 exact zKSR (zp1 rfl (qb (qy qc h hF ⟨rfl, trivial⟩)))

def qeI (a : (List qV)) (b : (List qV)) : Nat → Int → Option (Flow Bool Int)
 | 0, _ => none
 | n + 1, i1 =>
  bif decide (i1 < (a.length : Int)) then
   (idx a i1).bind fun y1 =>
   (idx b i1).bind fun y2 =>
   (qhZ n y1 y2).bind fun r1 =>
   bif (!r1) then
    some (.ret false)
   else
    qeI a b n (W64 (i1 + 1))
  else
   some (.nxt i1)

def qiv (n : Nat) (a : (List qV)) (b : (List qV)) : Option Bool :=
 bif ((a.length : Int) != (b.length : Int)) then
  some false
 else
  (qeI a b n 0).bind fun o => match o with
  | .ret r => some r
  | .nxt _ =>
   some true

theorem qm7 {n : Nat} {w : World} {a : (List qV)} {b : (List qV)} {cs1 : List Value} (ha1 : GoT.R w (old w) a cs1) {cs2 : List Value} (ha2 : GoT.R w (old w) b cs2) {r : Bool} (hF : qiv n a b = some r) : RetV Tryz.prog 174 [GoT.v (List qV) cs1, GoT.v (List qV) cs2] w r := by
 obtain ⟨p1, k1, rfl, s1⟩ := ha1
 obtain ⟨p2, k2, rfl, s2⟩ := ha2
 refine qe Tryz.func174 rfl (m := 27) rfl rfl (fun h => ?_)
 rw [qiv] at hF
 refine zSR (zp1 rfl (zNSSR (zp5 rfl ?_)))
 refine qb ?_
 refine qr rfl hF ?_ ?_ <;> intro hF
 ·exact zSR (zp1 rfl (qb (qy qc h hF ⟨rfl, trivial⟩)))
 refine zKSSR (zp1 rfl (qb ?_))
 obtain ⟨o1, hF, hK1⟩ := qd hF
 refine qw (qP [(0, _), (1, _), (5, _)] ⟨rfl, rfl, rfl, trivial⟩ ?_)
 refine qH (fun m e w' => ∃ (i1 : Int), qeI a b m i1 = some o1 ∧ e = [(0, .slice p1 a.length k1), (1, .slice p2 b.length k2), (5, .int .i64 i1)] ∧ SH w w' []) n ⟨_, hF, rfl, h⟩ ?_
 rintro m1 e1 w1 ⟨i1, hF, rfl, h⟩
 rcases m1 with _ | m1
 ·rw [qeI] at hF
  cases hF
 rw [qeI] at hF
 refine zSSR (zp4 rfl (qb ?_))
 refine qr rfl hF ?_ ?_ <;> intro hF
 ·refine zKSB (qbq ?_)
  refine qcN rfl (by kernel_rfl) ?_
  refine zd2 rfl ?_
  obtain ⟨y1, hy1, hF⟩ := qd hF
  have he1 := qf hy1
  obtain ⟨b1, o_1, q1, cs3, hp1, hq1, -, hr1, hc3⟩ := s1.at hy1
  obtain ⟨p3, k3, p4, k4, rfl, s3, s4⟩ := qaH hr1
  refine zdxe hp1 hq1 he1 rfl ?_
  refine zdc 0 (hc3.below h.below) rfl ?_
  refine zd2 rfl ?_
  obtain ⟨y2, hy2, hF⟩ := qd hF
  have he2 := qf hy2
  obtain ⟨b2, o_2, q2, cs4, hp2, hq2, -, hr2, hc4⟩ := s2.at hy2
  obtain ⟨p5, k5, p6, k6, rfl, s5, s6⟩ := qaH hr2
  refine zdxe hp2 hq2 he2 rfl ?_
  refine zdc 0 (hc4.below h.below) rfl ?_
  obtain ⟨r1, hr3, hF⟩ := qd hF
  refine qcO r1 (vsB _) call201 (fun _ hb => qns (qgl y1 ((h.ext hb).oldS s3) ((h.ext hb).oldS s4)) (qgl y2 ((h.ext hb).oldS s5) ((h.ext hb).oldS s6)) hr3) rfl rfl rfl rfl ?_
  refine zd1 rfl ?_
  refine qbj (fun w2 hb => ?_)
  replace h := h.ext hb
  clear hb
  refine qr rfl hF ?_ ?_ <;> intro hF
  ·refine zSR (zp1 rfl (qb ?_))
   obtain rfl := qh hF; replace hF := hK1
   exact qy qc h hF ⟨rfl, trivial⟩
  exact zKER (zp3 rfl (qb (qA m1 [(0, _), (1, _), (5, _)] (Nat.lt_succ_self m1) ⟨rfl, rfl, rfl, trivial⟩ ⟨_, hF, rfl, h⟩)))
 refine qG rfl ?_
 obtain rfl := qh hF; replace hF := hK1
 exact zSR (zp1 rfl (qb (qy qc h hF ⟨rfl, trivial⟩)))

def qhb (n : Nat) (a : qC) (b : qC) : Option Bool :=
 bif (a.Name.toList != b.Name.toList) then
  some false
 else
  bif (a.Kind != b.Kind) then
   some false
  else
   (qio n a.Pins b.Pins).bind fun r1 =>
   bif (!r1) then
    some false
   else
    (qiv n a.Arcs b.Arcs).bind fun r2 =>
    bif (!r2) then
     some false
    else
     (qaJ n a.Truth b.Truth).bind fun r3 =>
     bif (!r3) then
      some false
     else
      bif (a.Leak != b.Leak) then
       some false
      else
       bif (a.Energy != b.Energy) then
        some false
       else
        some true

theorem qnk {n : Nat} {w : World} {a : qC} {b : qC} {cs1 : List Value} (ha1 : GoT.R w (old w) a cs1) {cs2 : List Value} (ha2 : GoT.R w (old w) b cs2) {r : Bool} (hF : qhb n a b = some r) : RetV Tryz.prog 130 [GoT.v qC cs1, GoT.v qC cs2] w r := by
 obtain ⟨p1, k1, p2, k2, p3, k3, rfl, s1, s2, s3⟩ := qY ha1
 obtain ⟨p4, k4, p5, k5, p6, k6, rfl, s4, s5, s6⟩ := qY ha2
 refine qe Tryz.func130 rfl (m := 43) rfl rfl (fun h => ?_)
 rw [qhb] at hF
 refine zSR (qN h rfl rfl ?_)
 intro w1 bb1 h
 refine qN h rfl rfl ?_
 intro w2 bb2 h
 refine zp1 rfl (zNSSR (zp1 rfl (zl 1 0 h rfl (zp1 rfl (zl 0 0 h rfl (zp1 rfl (qb ?_)))))))
 refine qr rfl hF ?_ ?_ <;> intro hF
 ·exact zSR (zp1 rfl (qb (qy qc h hF ⟨rfl, trivial⟩)))
 refine zKSSR (zp1 rfl (zl 1 1 h rfl (zp1 rfl (zl 0 1 h rfl (zp1 rfl (qb ?_))))))
 refine qr rfl hF ?_ ?_ <;> intro hF
 ·exact zSR (zp1 rfl (qb (qy qc h hF ⟨rfl, trivial⟩)))
 refine zKSSR (zp1 rfl (zl 1 2 h rfl (zp1 rfl (zl 0 2 h rfl ?_))))
 obtain ⟨r1, hr1, hF⟩ := qd hF
 refine qp r1 h call173 (qna ⟨_, _, rfl, (h.oldS s1)⟩ ⟨_, _, rfl, (h.oldS s4)⟩ hr1) rfl rfl rfl rfl ?_
 intro w3 h
 refine zp1 rfl (qb ?_)
 refine qr rfl hF ?_ ?_ <;> intro hF
 ·exact zSR (zp1 rfl (qb (qy qc h hF ⟨rfl, trivial⟩)))
 refine zKSSR (zp1 rfl (zl 1 3 h rfl (zp1 rfl (zl 0 3 h rfl ?_))))
 obtain ⟨r2, hr2, hF⟩ := qd hF
 refine qp r2 h call174 (qm7 ⟨_, _, rfl, (h.oldS s2)⟩ ⟨_, _, rfl, (h.oldS s5)⟩ hr2) rfl rfl rfl rfl ?_
 intro w4 h
 refine zp1 rfl (qb ?_)
 refine qr rfl hF ?_ ?_ <;> intro hF
 ·exact zSR (zp1 rfl (qb (qy qc h hF ⟨rfl, trivial⟩)))
 refine zKSSR (zp1 rfl (zl 1 4 h rfl (zp1 rfl (zl 0 4 h rfl ?_))))
 obtain ⟨r3, hr3, hF⟩ := qd hF
 refine qp r3 h call19 (qaF ⟨_, _, rfl, (h.oldS s3)⟩ ⟨_, _, rfl, (h.oldS s6)⟩ hr3) rfl rfl rfl rfl ?_
 intro w5 h
 refine zp1 rfl (qb ?_)
 refine qr rfl hF ?_ ?_ <;> intro hF
 ·exact zSR (zp1 rfl (qb (qy qc h hF ⟨rfl, trivial⟩)))
 refine zKSSR (zp1 rfl (zl 1 5 h rfl (zp1 rfl (zl 0 5 h rfl (zp1 rfl (qb ?_))))))
 refine qr rfl hF ?_ ?_ <;> intro hF
 ·exact zSR (zp1 rfl (qb (qy qc h hF ⟨rfl, trivial⟩)))
 refine zKSSR (zp1 rfl (zl 1 6 h rfl (zp1 rfl (zl 0 6 h rfl (zp1 rfl (qb ?_))))))
 refine qr rfl hF ?_ ?_ <;> intro hF
 ·exact zSR (zp1 rfl (qb (qy qc h hF ⟨rfl, trivial⟩)))
 exact zKSR (zp1 rfl (qb (qy qc h hF ⟨rfl, trivial⟩)))

def qd9 (a : (List qC)) (b : (List qC)) : Nat → Int → Option (Flow Bool Int)
 | 0, _ => none
 | n + 1, i1 =>
  bif decide (i1 < (a.length : Int)) then
   (idx a i1).bind fun y1 =>
   (idx b i1).bind fun y2 =>
   (qhb n y1 y2).bind fun r1 =>
   bif (!r1) then
    some (.ret false)
   else
    qd9 a b n (W64 (i1 + 1))
  else
   some (.nxt i1)

def qhR (n : Nat) (a : (List qC)) (b : (List qC)) : Option Bool :=
 bif ((a.length : Int) != (b.length : Int)) then
  some false
 else
  (qd9 a b n 0).bind fun o => match o with
  | .ret r => some r
  | .nxt _ =>
   some true

theorem qmw {n : Nat} {w : World} {a : (List qC)} {b : (List qC)} {cs1 : List Value} (ha1 : GoT.R w (old w) a cs1) {cs2 : List Value} (ha2 : GoT.R w (old w) b cs2) {r : Bool} (hF : qhR n a b = some r) : RetV Tryz.prog 92 [GoT.v (List qC) cs1, GoT.v (List qC) cs2] w r := by
 obtain ⟨p1, k1, rfl, s1⟩ := ha1
 obtain ⟨p2, k2, rfl, s2⟩ := ha2
 refine qe Tryz.func92 rfl (m := 27) rfl rfl (fun h => ?_)
 rw [qhR] at hF
 refine zSR (zp1 rfl (zNSSR (zp5 rfl ?_)))
 refine qb ?_
 refine qr rfl hF ?_ ?_ <;> intro hF
 ·exact zSR (zp1 rfl (qb (qy qc h hF ⟨rfl, trivial⟩)))
 refine zKSSR (zp1 rfl (qb ?_))
 obtain ⟨o1, hF, hK1⟩ := qd hF
 refine qw (qP [(0, _), (1, _), (5, _)] ⟨rfl, rfl, rfl, trivial⟩ ?_)
 refine qH (fun m e w' => ∃ (i1 : Int), qd9 a b m i1 = some o1 ∧ e = [(0, .slice p1 a.length k1), (1, .slice p2 b.length k2), (5, .int .i64 i1)] ∧ SH w w' []) n ⟨_, hF, rfl, h⟩ ?_
 rintro m1 e1 w1 ⟨i1, hF, rfl, h⟩
 rcases m1 with _ | m1
 ·rw [qd9] at hF
  cases hF
 rw [qd9] at hF
 refine zSSR (zp4 rfl (qb ?_))
 refine qr rfl hF ?_ ?_ <;> intro hF
 ·refine zKSB (qbq ?_)
  refine qcN rfl (by kernel_rfl) ?_
  refine zd2 rfl ?_
  obtain ⟨y1, hy1, hF⟩ := qd hF
  have he1 := qf hy1
  obtain ⟨b1, o_1, q1, cs3, hp1, hq1, -, hr1, hc3⟩ := s1.at hy1
  obtain ⟨p3, k3, p4, k4, p5, k5, rfl, s3, s4, s5⟩ := qY hr1
  refine zdxe hp1 hq1 he1 rfl ?_
  refine zdc 0 (hc3.below h.below) rfl ?_
  refine zd2 rfl ?_
  obtain ⟨y2, hy2, hF⟩ := qd hF
  have he2 := qf hy2
  obtain ⟨b2, o_2, q2, cs4, hp2, hq2, -, hr2, hc4⟩ := s2.at hy2
  obtain ⟨p6, k6, p7, k7, p8, k8, rfl, s6, s7, s8⟩ := qY hr2
  refine zdxe hp2 hq2 he2 rfl ?_
  refine zdc 0 (hc4.below h.below) rfl ?_
  obtain ⟨r1, hr3, hF⟩ := qd hF
  refine qcO r1 (vsB _) call130 (fun _ hb => qnk (qhd y1 ((h.ext hb).oldS s3) ((h.ext hb).oldS s4) ((h.ext hb).oldS s5)) (qhd y2 ((h.ext hb).oldS s6) ((h.ext hb).oldS s7) ((h.ext hb).oldS s8)) hr3) rfl rfl rfl rfl ?_
  refine zd1 rfl ?_
  refine qbj (fun w2 hb => ?_)
  replace h := h.ext hb
  clear hb
  refine qr rfl hF ?_ ?_ <;> intro hF
  ·refine zSR (zp1 rfl (qb ?_))
   obtain rfl := qh hF; replace hF := hK1
   exact qy qc h hF ⟨rfl, trivial⟩
  exact zKER (zp3 rfl (qb (qA m1 [(0, _), (1, _), (5, _)] (Nat.lt_succ_self m1) ⟨rfl, rfl, rfl, trivial⟩ ⟨_, hF, rfl, h⟩)))
 refine qG rfl ?_
 obtain rfl := qh hF; replace hF := hK1
 exact zSR (zp1 rfl (qb (qy qc h hF ⟨rfl, trivial⟩)))

def qgk (n : Nat) (a : qv) (b : qv) : Option Bool :=
 (qhR n a.Cells b.Cells).bind fun r1 =>
 bif (!r1) then
  some false
 else
  some true

theorem qlo {n : Nat} {w : World} {a : qv} {b : qv} {cs1 : List Value} (ha1 : GoT.R w (old w) a cs1) {cs2 : List Value} (ha2 : GoT.R w (old w) b cs2) {r : Bool} (hF : qgk n a b = some r) : RetV Tryz.prog 51 [GoT.v qv cs1, GoT.v qv cs2] w r := by
 obtain ⟨p1, k1, rfl, s1⟩ := qbA ha1
 obtain ⟨p2, k2, rfl, s2⟩ := qbA ha2
 refine qe Tryz.func51 rfl (m := 11) rfl rfl (fun h => ?_)
 rw [qgk] at hF
 refine zSR (qN h rfl rfl ?_)
 intro w1 bb1 h
 refine qN h rfl rfl ?_
 intro w2 bb2 h
 refine zp1 rfl (zNSSR (zp1 rfl (zl 1 0 h rfl (zp1 rfl (zl 0 0 h rfl ?_)))))
 obtain ⟨r1, hr1, hF⟩ := qd hF
 refine qp r1 h call92 (qmw ⟨_, _, rfl, (h.oldS s1)⟩ ⟨_, _, rfl, (h.oldS s2)⟩ hr1) rfl rfl rfl rfl ?_
 intro w3 h
 refine zp1 rfl (qb ?_)
 refine qr rfl hF ?_ ?_ <;> intro hF
 ·exact zSR (zp1 rfl (qb (qy qc h hF ⟨rfl, trivial⟩)))
 exact zKSR (zp1 rfl (qb (qy qc h hF ⟨rfl, trivial⟩)))

def qeU (n : Nat) (a : qm) (b : qm) : Option Bool :=
 bif (a.Name.toList != b.Name.toList) then
  some false
 else
  bif (a.Cell != b.Cell) then
   some false
  else
   (qaJ n a.Nets b.Nets).bind fun r1 =>
   bif (!r1) then
    some false
   else
    some true

theorem qlb {n : Nat} {w : World} {a : qm} {b : qm} {cs1 : List Value} (ha1 : GoT.R w (old w) a cs1) {cs2 : List Value} (ha2 : GoT.R w (old w) b cs2) {r : Bool} (hF : qeU n a b = some r) : RetV Tryz.prog 131 [GoT.v qm cs1, GoT.v qm cs2] w r := by
 obtain ⟨p1, k1, rfl, s1⟩ := qab ha1
 obtain ⟨p2, k2, rfl, s2⟩ := qab ha2
 refine qe Tryz.func131 rfl (m := 21) rfl rfl (fun h => ?_)
 rw [qeU] at hF
 refine zSR (qN h rfl rfl ?_)
 intro w1 bb1 h
 refine qN h rfl rfl ?_
 intro w2 bb2 h
 refine zp1 rfl (zNSSR (zp1 rfl (zl 1 0 h rfl (zp1 rfl (zl 0 0 h rfl (zp1 rfl (qb ?_)))))))
 refine qr rfl hF ?_ ?_ <;> intro hF
 ·exact zSR (zp1 rfl (qb (qy qc h hF ⟨rfl, trivial⟩)))
 refine zKSSR (zp1 rfl (zl 1 1 h rfl (zp1 rfl (zl 0 1 h rfl (zp1 rfl (qb ?_))))))
 refine qr rfl hF ?_ ?_ <;> intro hF
 ·exact zSR (zp1 rfl (qb (qy qc h hF ⟨rfl, trivial⟩)))
 refine zKSSR (zp1 rfl (zl 1 2 h rfl (zp1 rfl (zl 0 2 h rfl ?_))))
 obtain ⟨r1, hr1, hF⟩ := qd hF
 refine qp r1 h call19 (qaF ⟨_, _, rfl, (h.oldS s1)⟩ ⟨_, _, rfl, (h.oldS s2)⟩ hr1) rfl rfl rfl rfl ?_
 intro w3 h
 refine zp1 rfl (qb ?_)
 refine qr rfl hF ?_ ?_ <;> intro hF
 ·exact zSR (zp1 rfl (qb (qy qc h hF ⟨rfl, trivial⟩)))
 exact zKSR (zp1 rfl (qb (qy qc h hF ⟨rfl, trivial⟩)))

def qcq (a : (List qm)) (b : (List qm)) : Nat → Int → Option (Flow Bool Int)
 | 0, _ => none
 | n + 1, i1 =>
  bif decide (i1 < (a.length : Int)) then
   (idx a i1).bind fun y1 =>
   (idx b i1).bind fun y2 =>
   (qeU n y1 y2).bind fun r1 =>
   bif (!r1) then
    some (.ret false)
   else
    qcq a b n (W64 (i1 + 1))
  else
   some (.nxt i1)

def qfm (n : Nat) (a : (List qm)) (b : (List qm)) : Option Bool :=
 bif ((a.length : Int) != (b.length : Int)) then
  some false
 else
  (qcq a b n 0).bind fun o => match o with
  | .ret r => some r
  | .nxt _ =>
   some true

theorem qkG {n : Nat} {w : World} {a : (List qm)} {b : (List qm)} {cs1 : List Value} (ha1 : GoT.R w (old w) a cs1) {cs2 : List Value} (ha2 : GoT.R w (old w) b cs2) {r : Bool} (hF : qfm n a b = some r) : RetV Tryz.prog 93 [GoT.v (List qm) cs1, GoT.v (List qm) cs2] w r := by
 obtain ⟨p1, k1, rfl, s1⟩ := ha1
 obtain ⟨p2, k2, rfl, s2⟩ := ha2
 refine qe Tryz.func93 rfl (m := 27) rfl rfl (fun h => ?_)
 rw [qfm] at hF
 refine zSR (zp1 rfl (zNSSR (zp5 rfl ?_)))
 refine qb ?_
 refine qr rfl hF ?_ ?_ <;> intro hF
 ·exact zSR (zp1 rfl (qb (qy qc h hF ⟨rfl, trivial⟩)))
 refine zKSSR (zp1 rfl (qb ?_))
 obtain ⟨o1, hF, hK1⟩ := qd hF
 refine qw (qP [(0, _), (1, _), (5, _)] ⟨rfl, rfl, rfl, trivial⟩ ?_)
 refine qH (fun m e w' => ∃ (i1 : Int), qcq a b m i1 = some o1 ∧ e = [(0, .slice p1 a.length k1), (1, .slice p2 b.length k2), (5, .int .i64 i1)] ∧ SH w w' []) n ⟨_, hF, rfl, h⟩ ?_
 rintro m1 e1 w1 ⟨i1, hF, rfl, h⟩
 rcases m1 with _ | m1
 ·rw [qcq] at hF
  cases hF
 rw [qcq] at hF
 refine zSSR (zp4 rfl (qb ?_))
 refine qr rfl hF ?_ ?_ <;> intro hF
 ·refine zKSB (qbq ?_)
  refine qcN rfl (by kernel_rfl) ?_
  refine zd2 rfl ?_
  obtain ⟨y1, hy1, hF⟩ := qd hF
  have he1 := qf hy1
  obtain ⟨b1, o_1, q1, cs3, hp1, hq1, -, hr1, hc3⟩ := s1.at hy1
  obtain ⟨p3, k3, rfl, s3⟩ := qab hr1
  refine zdxe hp1 hq1 he1 rfl ?_
  refine zdc 0 (hc3.below h.below) rfl ?_
  refine zd2 rfl ?_
  obtain ⟨y2, hy2, hF⟩ := qd hF
  have he2 := qf hy2
  obtain ⟨b2, o_2, q2, cs4, hp2, hq2, -, hr2, hc4⟩ := s2.at hy2
  obtain ⟨p4, k4, rfl, s4⟩ := qab hr2
  refine zdxe hp2 hq2 he2 rfl ?_
  refine zdc 0 (hc4.below h.below) rfl ?_
  obtain ⟨r1, hr3, hF⟩ := qd hF
  refine qcO r1 (vsB _) call131 (fun _ hb => qlb (qf3 y1 ((h.ext hb).oldS s3)) (qf3 y2 ((h.ext hb).oldS s4)) hr3) rfl rfl rfl rfl ?_
  refine zd1 rfl ?_
  refine qbj (fun w2 hb => ?_)
  replace h := h.ext hb
  clear hb
  refine qr rfl hF ?_ ?_ <;> intro hF
  ·refine zSR (zp1 rfl (qb ?_))
   obtain rfl := qh hF; replace hF := hK1
   exact qy qc h hF ⟨rfl, trivial⟩
  exact zKER (zp3 rfl (qb (qA m1 [(0, _), (1, _), (5, _)] (Nat.lt_succ_self m1) ⟨rfl, rfl, rfl, trivial⟩ ⟨_, hF, rfl, h⟩)))
 refine qG rfl ?_
 obtain rfl := qh hF; replace hF := hK1
 exact zSR (zp1 rfl (qb (qy qc h hF ⟨rfl, trivial⟩)))

def qdd (a : (List ByteArray)) (b : (List ByteArray)) : Nat → Int → Option (Flow Bool Int)
 | 0, _ => none
 | n + 1, i1 =>
  bif decide (i1 < (a.length : Int)) then
   (idx a i1).bind fun y1 =>
   (idx b i1).bind fun y2 =>
   bif (y1.toList != y2.toList) then
    some (.ret false)
   else
    qdd a b n (W64 (i1 + 1))
  else
   some (.nxt i1)

def qgj (n : Nat) (a : (List ByteArray)) (b : (List ByteArray)) : Option Bool :=
 bif ((a.length : Int) != (b.length : Int)) then
  some false
 else
  (qdd a b n 0).bind fun o => match o with
  | .ret r => some r
  | .nxt _ =>
   some true

theorem qln {n : Nat} {w : World} {a : (List ByteArray)} {b : (List ByteArray)} {cs1 : List Value} (ha1 : GoT.R w (old w) a cs1) {cs2 : List Value} (ha2 : GoT.R w (old w) b cs2) {r : Bool} (hF : qgj n a b = some r) : RetV Tryz.prog 94 [GoT.v (List ByteArray) cs1, GoT.v (List ByteArray) cs2] w r := by
 obtain ⟨p1, k1, rfl, s1⟩ := ha1
 obtain ⟨p2, k2, rfl, s2⟩ := ha2
 refine qe Tryz.func94 rfl (m := 26) rfl rfl (fun h => ?_)
 rw [qgj] at hF
 refine zSR (zp1 rfl (zNSSR (zp5 rfl ?_)))
 refine qb ?_
 refine qr rfl hF ?_ ?_ <;> intro hF
 ·exact zSR (zp1 rfl (qb (qy qc h hF ⟨rfl, trivial⟩)))
 refine zKSSR (zp1 rfl (qb ?_))
 obtain ⟨o1, hF, hK1⟩ := qd hF
 refine qw (qP [(0, _), (1, _), (5, _)] ⟨rfl, rfl, rfl, trivial⟩ ?_)
 refine qH (fun m e w' => ∃ (i1 : Int), qdd a b m i1 = some o1 ∧ e = [(0, .slice p1 a.length k1), (1, .slice p2 b.length k2), (5, .int .i64 i1)] ∧ SH w w' []) n ⟨_, hF, rfl, h⟩ ?_
 rintro m1 e1 w1 ⟨i1, hF, rfl, h⟩
 rcases m1 with _ | m1
 ·rw [qdd] at hF
  cases hF
 rw [qdd] at hF
 refine zSSR (zp4 rfl (qb ?_))
 refine qr rfl hF ?_ ?_ <;> intro hF
 ·refine zKSB (qbq ?_)
  refine qcN rfl (by kernel_rfl) ?_
  refine zd2 rfl ?_
  obtain ⟨y1, hy1, hF⟩ := qd hF
  have he1 := qf hy1
  obtain ⟨b1, o_1, q1, cs3, hp1, hq1, -, hr1, hc3⟩ := s1.at hy1
  obtain rfl := hr1
  refine zdxe hp1 hq1 he1 rfl ?_
  refine zdc 0 (hc3.below h.below) rfl ?_
  refine zd2 rfl ?_
  obtain ⟨y2, hy2, hF⟩ := qd hF
  have he2 := qf hy2
  obtain ⟨b2, o_2, q2, cs4, hp2, hq2, -, hr2, hc4⟩ := s2.at hy2
  obtain rfl := hr2
  refine zdxe hp2 hq2 he2 rfl ?_
  refine zdc 0 (hc4.below h.below) rfl ?_
  refine zd1 rfl ?_
  refine qbj (fun w2 hb => ?_)
  replace h := h.ext hb
  clear hb
  refine qr rfl hF ?_ ?_ <;> intro hF
  ·refine zSR (zp1 rfl (qb ?_))
   obtain rfl := qh hF; replace hF := hK1
   exact qy qc h hF ⟨rfl, trivial⟩
  exact zKER (zp3 rfl (qb (qA m1 [(0, _), (1, _), (5, _)] (Nat.lt_succ_self m1) ⟨rfl, rfl, rfl, trivial⟩ ⟨_, hF, rfl, h⟩)))
 refine qG rfl ?_
 obtain rfl := qh hF; replace hF := hK1
 exact zSR (zp1 rfl (qb (qy qc h hF ⟨rfl, trivial⟩)))

def qhl (_ : Nat) (a : qX) (b : qX) : Option Bool :=
 bif (a.Name.toList != b.Name.toList) then
  some false
 else
  bif (a.Dir != b.Dir) then
   some false
  else
   bif (a.Net != b.Net) then
    some false
   else
    some true

theorem qmI {n : Nat} {w : World} {a : qX} {b : qX} {cs1 : List Value} (ha1 : GoT.R w (old w) a cs1) {cs2 : List Value} (ha2 : GoT.R w (old w) b cs2) {r : Bool} (hF : qhl n a b = some r) : RetV Tryz.prog 132 [GoT.v qX cs1, GoT.v qX cs2] w r := by
 obtain rfl := qa8 ha1
 obtain rfl := qa8 ha2
 refine qe Tryz.func132 rfl (m := 20) rfl rfl (fun h => ?_)
 rw [qhl] at hF
 refine zSR (qN h rfl rfl ?_)
 intro w1 bb1 h
 refine qN h rfl rfl ?_
 intro w2 bb2 h
 refine zp1 rfl (zNSSR (zp1 rfl (zl 1 0 h rfl (zp1 rfl (zl 0 0 h rfl (zp1 rfl (qb ?_)))))))
 refine qr rfl hF ?_ ?_ <;> intro hF
 ·exact zSR (zp1 rfl (qb (qy qc h hF ⟨rfl, trivial⟩)))
 refine zKSSR (zp1 rfl (zl 1 1 h rfl (zp1 rfl (zl 0 1 h rfl (zp1 rfl (qb ?_))))))
 refine qr rfl hF ?_ ?_ <;> intro hF
 ·exact zSR (zp1 rfl (qb (qy qc h hF ⟨rfl, trivial⟩)))
 refine zKSSR (zp1 rfl (zl 1 2 h rfl (zp1 rfl (zl 0 2 h rfl (zp1 rfl (qb ?_))))))
 refine qr rfl hF ?_ ?_ <;> intro hF
 ·exact zSR (zp1 rfl (qb (qy qc h hF ⟨rfl, trivial⟩)))
 exact zKSR (zp1 rfl (qb (qy qc h hF ⟨rfl, trivial⟩)))

def qeb (a : (List qX)) (b : (List qX)) : Nat → Int → Option (Flow Bool Int)
 | 0, _ => none
 | n + 1, i1 =>
  bif decide (i1 < (a.length : Int)) then
   (idx a i1).bind fun y1 =>
   (idx b i1).bind fun y2 =>
   (qhl n y1 y2).bind fun r1 =>
   bif (!r1) then
    some (.ret false)
   else
    qeb a b n (W64 (i1 + 1))
  else
   some (.nxt i1)

def qhy (n : Nat) (a : (List qX)) (b : (List qX)) : Option Bool :=
 bif ((a.length : Int) != (b.length : Int)) then
  some false
 else
  (qeb a b n 0).bind fun o => match o with
  | .ret r => some r
  | .nxt _ =>
   some true

theorem qmh {n : Nat} {w : World} {a : (List qX)} {b : (List qX)} {cs1 : List Value} (ha1 : GoT.R w (old w) a cs1) {cs2 : List Value} (ha2 : GoT.R w (old w) b cs2) {r : Bool} (hF : qhy n a b = some r) : RetV Tryz.prog 95 [GoT.v (List qX) cs1, GoT.v (List qX) cs2] w r := by
 obtain ⟨p1, k1, rfl, s1⟩ := ha1
 obtain ⟨p2, k2, rfl, s2⟩ := ha2
 refine qe Tryz.func95 rfl (m := 27) rfl rfl (fun h => ?_)
 rw [qhy] at hF
 refine zSR (zp1 rfl (zNSSR (zp5 rfl ?_)))
 refine qb ?_
 refine qr rfl hF ?_ ?_ <;> intro hF
 ·exact zSR (zp1 rfl (qb (qy qc h hF ⟨rfl, trivial⟩)))
 refine zKSSR (zp1 rfl (qb ?_))
 obtain ⟨o1, hF, hK1⟩ := qd hF
 refine qw (qP [(0, _), (1, _), (5, _)] ⟨rfl, rfl, rfl, trivial⟩ ?_)
 refine qH (fun m e w' => ∃ (i1 : Int), qeb a b m i1 = some o1 ∧ e = [(0, .slice p1 a.length k1), (1, .slice p2 b.length k2), (5, .int .i64 i1)] ∧ SH w w' []) n ⟨_, hF, rfl, h⟩ ?_
 rintro m1 e1 w1 ⟨i1, hF, rfl, h⟩
 rcases m1 with _ | m1
 ·rw [qeb] at hF
  cases hF
 rw [qeb] at hF
 refine zSSR (zp4 rfl (qb ?_))
 refine qr rfl hF ?_ ?_ <;> intro hF
 ·refine zKSB (qbq ?_)
  refine qcN rfl (by kernel_rfl) ?_
  refine zd2 rfl ?_
  obtain ⟨y1, hy1, hF⟩ := qd hF
  have he1 := qf hy1
  obtain ⟨b1, o_1, q1, cs3, hp1, hq1, -, hr1, hc3⟩ := s1.at hy1
  obtain rfl := qa8 hr1
  refine zdxe hp1 hq1 he1 rfl ?_
  refine zdc 0 (hc3.below h.below) rfl ?_
  refine zd2 rfl ?_
  obtain ⟨y2, hy2, hF⟩ := qd hF
  have he2 := qf hy2
  obtain ⟨b2, o_2, q2, cs4, hp2, hq2, -, hr2, hc4⟩ := s2.at hy2
  obtain rfl := qa8 hr2
  refine zdxe hp2 hq2 he2 rfl ?_
  refine zdc 0 (hc4.below h.below) rfl ?_
  obtain ⟨r1, hr3, hF⟩ := qd hF
  refine qcO r1 (vsB _) call132 (fun _ hb => qmI (qew y1) (qew y2) hr3) rfl rfl rfl rfl ?_
  refine zd1 rfl ?_
  refine qbj (fun w2 hb => ?_)
  replace h := h.ext hb
  clear hb
  refine qr rfl hF ?_ ?_ <;> intro hF
  ·refine zSR (zp1 rfl (qb ?_))
   obtain rfl := qh hF; replace hF := hK1
   exact qy qc h hF ⟨rfl, trivial⟩
  exact zKER (zp3 rfl (qb (qA m1 [(0, _), (1, _), (5, _)] (Nat.lt_succ_self m1) ⟨rfl, rfl, rfl, trivial⟩ ⟨_, hF, rfl, h⟩)))
 refine qG rfl ?_
 obtain rfl := qh hF; replace hF := hK1
 exact zSR (zp1 rfl (qb (qy qc h hF ⟨rfl, trivial⟩)))

def qgM (n : Nat) (a : qj) (b : qj) : Option Bool :=
 (qfm n a.Instances b.Instances).bind fun r1 =>
 bif (!r1) then
  some false
 else
  (qgj n a.Nets b.Nets).bind fun r2 =>
  bif (!r2) then
   some false
  else
   (qhy n a.Ports b.Ports).bind fun r3 =>
   bif (!r3) then
    some false
   else
    some true

theorem qlO {n : Nat} {w : World} {a : qj} {b : qj} {cs1 : List Value} (ha1 : GoT.R w (old w) a cs1) {cs2 : List Value} (ha2 : GoT.R w (old w) b cs2) {r : Bool} (hF : qgM n a b = some r) : RetV Tryz.prog 52 [GoT.v qj cs1, GoT.v qj cs2] w r := by
 obtain ⟨p1, k1, p2, k2, p3, k3, rfl, s1, s2, s3⟩ := qaE ha1
 obtain ⟨p4, k4, p5, k5, p6, k6, rfl, s4, s5, s6⟩ := qaE ha2
 refine qe Tryz.func52 rfl (m := 23) rfl rfl (fun h => ?_)
 rw [qgM] at hF
 refine zSR (qN h rfl rfl ?_)
 intro w1 bb1 h
 refine qN h rfl rfl ?_
 intro w2 bb2 h
 refine zp1 rfl (zNSSR (zp1 rfl (zl 1 0 h rfl (zp1 rfl (zl 0 0 h rfl ?_)))))
 obtain ⟨r1, hr1, hF⟩ := qd hF
 refine qp r1 h call93 (qkG ⟨_, _, rfl, (h.oldS s1)⟩ ⟨_, _, rfl, (h.oldS s4)⟩ hr1) rfl rfl rfl rfl ?_
 intro w3 h
 refine zp1 rfl (qb ?_)
 refine qr rfl hF ?_ ?_ <;> intro hF
 ·exact zSR (zp1 rfl (qb (qy qc h hF ⟨rfl, trivial⟩)))
 refine zKSSR (zp1 rfl (zl 1 1 h rfl (zp1 rfl (zl 0 1 h rfl ?_))))
 obtain ⟨r2, hr2, hF⟩ := qd hF
 refine qp r2 h call94 (qln ⟨_, _, rfl, (h.oldS s2)⟩ ⟨_, _, rfl, (h.oldS s5)⟩ hr2) rfl rfl rfl rfl ?_
 intro w4 h
 refine zp1 rfl (qb ?_)
 refine qr rfl hF ?_ ?_ <;> intro hF
 ·exact zSR (zp1 rfl (qb (qy qc h hF ⟨rfl, trivial⟩)))
 refine zKSSR (zp1 rfl (zl 1 2 h rfl (zp1 rfl (zl 0 2 h rfl ?_))))
 obtain ⟨r3, hr3, hF⟩ := qd hF
 refine qp r3 h call95 (qmh ⟨_, _, rfl, (h.oldS s3)⟩ ⟨_, _, rfl, (h.oldS s6)⟩ hr3) rfl rfl rfl rfl ?_
 intro w5 h
 refine zp1 rfl (qb ?_)
 refine qr rfl hF ?_ ?_ <;> intro hF
 ·exact zSR (zp1 rfl (qb (qy qc h hF ⟨rfl, trivial⟩)))
 exact zKSR (zp1 rfl (qb (qy qc h hF ⟨rfl, trivial⟩)))

def qhi (n : Nat) (a : qS) (b : qS) : Option Bool :=
 (qaJ n a.Parent b.Parent).bind fun r1 =>
 bif (!r1) then
  some false
 else
  (qaJ n a.Res b.Res).bind fun r2 =>
  bif (!r2) then
   some false
  else
   (qaJ n a.Cap b.Cap).bind fun r3 =>
   bif (!r3) then
    some false
   else
    (qaJ n a.Sink b.Sink).bind fun r4 =>
    bif (!r4) then
     some false
    else
     some true

theorem qne {n : Nat} {w : World} {a : qS} {b : qS} {cs1 : List Value} (ha1 : GoT.R w (old w) a cs1) {cs2 : List Value} (ha2 : GoT.R w (old w) b cs2) {r : Bool} (hF : qhi n a b = some r) : RetV Tryz.prog 96 [GoT.v qS cs1, GoT.v qS cs2] w r := by
 obtain ⟨p1, k1, p2, k2, p3, k3, p4, k4, rfl, s1, s2, s3, s4⟩ := qbJ ha1
 obtain ⟨p5, k5, p6, k6, p7, k7, p8, k8, rfl, s5, s6, s7, s8⟩ := qbJ ha2
 refine qe Tryz.func96 rfl (m := 29) rfl rfl (fun h => ?_)
 rw [qhi] at hF
 refine zSR (qN h rfl rfl ?_)
 intro w1 bb1 h
 refine qN h rfl rfl ?_
 intro w2 bb2 h
 refine zp1 rfl (zNSSR (zp1 rfl (zl 1 0 h rfl (zp1 rfl (zl 0 0 h rfl ?_)))))
 obtain ⟨r1, hr1, hF⟩ := qd hF
 refine qp r1 h call19 (qaF ⟨_, _, rfl, (h.oldS s1)⟩ ⟨_, _, rfl, (h.oldS s5)⟩ hr1) rfl rfl rfl rfl ?_
 intro w3 h
 refine zp1 rfl (qb ?_)
 refine qr rfl hF ?_ ?_ <;> intro hF
 ·exact zSR (zp1 rfl (qb (qy qc h hF ⟨rfl, trivial⟩)))
 refine zKSSR (zp1 rfl (zl 1 1 h rfl (zp1 rfl (zl 0 1 h rfl ?_))))
 obtain ⟨r2, hr2, hF⟩ := qd hF
 refine qp r2 h call19 (qaF ⟨_, _, rfl, (h.oldS s2)⟩ ⟨_, _, rfl, (h.oldS s6)⟩ hr2) rfl rfl rfl rfl ?_
 intro w4 h
 refine zp1 rfl (qb ?_)
 refine qr rfl hF ?_ ?_ <;> intro hF
 ·exact zSR (zp1 rfl (qb (qy qc h hF ⟨rfl, trivial⟩)))
 refine zKSSR (zp1 rfl (zl 1 2 h rfl (zp1 rfl (zl 0 2 h rfl ?_))))
 obtain ⟨r3, hr3, hF⟩ := qd hF
 refine qp r3 h call19 (qaF ⟨_, _, rfl, (h.oldS s3)⟩ ⟨_, _, rfl, (h.oldS s7)⟩ hr3) rfl rfl rfl rfl ?_
 intro w5 h
 refine zp1 rfl (qb ?_)
 refine qr rfl hF ?_ ?_ <;> intro hF
 ·exact zSR (zp1 rfl (qb (qy qc h hF ⟨rfl, trivial⟩)))
 refine zKSSR (zp1 rfl (zl 1 3 h rfl (zp1 rfl (zl 0 3 h rfl ?_))))
 obtain ⟨r4, hr4, hF⟩ := qd hF
 refine qp r4 h call19 (qaF ⟨_, _, rfl, (h.oldS s4)⟩ ⟨_, _, rfl, (h.oldS s8)⟩ hr4) rfl rfl rfl rfl ?_
 intro w6 h
 refine zp1 rfl (qb ?_)
 refine qr rfl hF ?_ ?_ <;> intro hF
 ·exact zSR (zp1 rfl (qb (qy qc h hF ⟨rfl, trivial⟩)))
 exact zKSR (zp1 rfl (qb (qy qc h hF ⟨rfl, trivial⟩)))

def qd8 (a : (List qS)) (b : (List qS)) : Nat → Int → Option (Flow Bool Int)
 | 0, _ => none
 | n + 1, i1 =>
  bif decide (i1 < (a.length : Int)) then
   (idx a i1).bind fun y1 =>
   (idx b i1).bind fun y2 =>
   (qhi n y1 y2).bind fun r1 =>
   bif (!r1) then
    some (.ret false)
   else
    qd8 a b n (W64 (i1 + 1))
  else
   some (.nxt i1)

def qhK (n : Nat) (a : (List qS)) (b : (List qS)) : Option Bool :=
 bif ((a.length : Int) != (b.length : Int)) then
  some false
 else
  (qd8 a b n 0).bind fun o => match o with
  | .ret r => some r
  | .nxt _ =>
   some true

theorem qmu {n : Nat} {w : World} {a : (List qS)} {b : (List qS)} {cs1 : List Value} (ha1 : GoT.R w (old w) a cs1) {cs2 : List Value} (ha2 : GoT.R w (old w) b cs2) {r : Bool} (hF : qhK n a b = some r) : RetV Tryz.prog 53 [GoT.v (List qS) cs1, GoT.v (List qS) cs2] w r := by
 obtain ⟨p1, k1, rfl, s1⟩ := ha1
 obtain ⟨p2, k2, rfl, s2⟩ := ha2
 refine qe Tryz.func53 rfl (m := 27) rfl rfl (fun h => ?_)
 rw [qhK] at hF
 refine zSR (zp1 rfl (zNSSR (zp5 rfl ?_)))
 refine qb ?_
 refine qr rfl hF ?_ ?_ <;> intro hF
 ·exact zSR (zp1 rfl (qb (qy qc h hF ⟨rfl, trivial⟩)))
 refine zKSSR (zp1 rfl (qb ?_))
 obtain ⟨o1, hF, hK1⟩ := qd hF
 refine qw (qP [(0, _), (1, _), (5, _)] ⟨rfl, rfl, rfl, trivial⟩ ?_)
 refine qH (fun m e w' => ∃ (i1 : Int), qd8 a b m i1 = some o1 ∧ e = [(0, .slice p1 a.length k1), (1, .slice p2 b.length k2), (5, .int .i64 i1)] ∧ SH w w' []) n ⟨_, hF, rfl, h⟩ ?_
 rintro m1 e1 w1 ⟨i1, hF, rfl, h⟩
 rcases m1 with _ | m1
 ·rw [qd8] at hF
  cases hF
 rw [qd8] at hF
 refine zSSR (zp4 rfl (qb ?_))
 refine qr rfl hF ?_ ?_ <;> intro hF
 ·refine zKSB (qbq ?_)
  refine qcN rfl (by kernel_rfl) ?_
  refine zd2 rfl ?_
  obtain ⟨y1, hy1, hF⟩ := qd hF
  have he1 := qf hy1
  obtain ⟨b1, o_1, q1, cs3, hp1, hq1, -, hr1, hc3⟩ := s1.at hy1
  obtain ⟨p3, k3, p4, k4, p5, k5, p6, k6, rfl, s3, s4, s5, s6⟩ := qbJ hr1
  refine zdxe hp1 hq1 he1 rfl ?_
  refine zdc 0 (hc3.below h.below) rfl ?_
  refine zd2 rfl ?_
  obtain ⟨y2, hy2, hF⟩ := qd hF
  have he2 := qf hy2
  obtain ⟨b2, o_2, q2, cs4, hp2, hq2, -, hr2, hc4⟩ := s2.at hy2
  obtain ⟨p7, k7, p8, k8, p9, k9, p10, k10, rfl, s7, s8, s9, s10⟩ := qbJ hr2
  refine zdxe hp2 hq2 he2 rfl ?_
  refine zdc 0 (hc4.below h.below) rfl ?_
  obtain ⟨r1, hr3, hF⟩ := qd hF
  refine qcO r1 (vsB _) call96 (fun _ hb => qne (qiI y1 ((h.ext hb).oldS s3) ((h.ext hb).oldS s4) ((h.ext hb).oldS s5) ((h.ext hb).oldS s6)) (qiI y2 ((h.ext hb).oldS s7) ((h.ext hb).oldS s8) ((h.ext hb).oldS s9) ((h.ext hb).oldS s10)) hr3) rfl rfl rfl rfl ?_
  refine zd1 rfl ?_
  refine qbj (fun w2 hb => ?_)
  replace h := h.ext hb
  clear hb
  refine qr rfl hF ?_ ?_ <;> intro hF
  ·refine zSR (zp1 rfl (qb ?_))
   obtain rfl := qh hF; replace hF := hK1
   exact qy qc h hF ⟨rfl, trivial⟩
  exact zKER (zp3 rfl (qb (qA m1 [(0, _), (1, _), (5, _)] (Nat.lt_succ_self m1) ⟨rfl, rfl, rfl, trivial⟩ ⟨_, hF, rfl, h⟩)))
 refine qG rfl ?_
 obtain rfl := qh hF; replace hF := hK1
 exact zSR (zp1 rfl (qb (qy qc h hF ⟨rfl, trivial⟩)))

def qhE (n : Nat) (a : qz) (b : qz) : Option Bool :=
 (qgk n (⟨a.Library.Cells⟩ : qv) (⟨b.Library.Cells⟩ : qv)).bind fun r1 =>
 bif (!r1) then
  some false
 else
  (qgM n (⟨a.Design.Instances, a.Design.Nets, a.Design.Ports⟩ : qj) (⟨b.Design.Instances, b.Design.Nets, b.Design.Ports⟩ : qj)).bind fun r2 =>
  bif (!r2) then
   some false
  else
   (qhK n a.Wires b.Wires).bind fun r3 =>
   bif (!r3) then
    some false
   else
    some true

theorem qml {n : Nat} {w : World} {a : qz} {b : qz} {cs1 : List Value} (ha1 : GoT.R w (old w) a cs1) {cs2 : List Value} (ha2 : GoT.R w (old w) b cs2) {r : Bool} (hF : qhE n a b = some r) : RetV Tryz.prog 17 [GoT.v qz cs1, GoT.v qz cs2] w r := by
 obtain ⟨p1, k1, p2, k2, p3, k3, p4, k4, p5, k5, rfl, s1, s2, s3, s4, s5⟩ := qaq ha1
 obtain ⟨p6, k6, p7, k7, p8, k8, p9, k9, p10, k10, rfl, s6, s7, s8, s9, s10⟩ := qaq ha2
 refine qe Tryz.func17 rfl (m := 23) rfl rfl (fun h => ?_)
 rw [qhE] at hF
 refine zSR (qN h rfl rfl ?_)
 intro w1 bb1 h
 refine qN h rfl rfl ?_
 intro w2 bb2 h
 refine zp1 rfl (zNSSR (zp1 rfl (zl 1 0 h rfl (zp1 rfl (zl 0 0 h rfl ?_)))))
 obtain ⟨r1, hr1, hF⟩ := qd hF
 refine qp r1 h call51 (qlo (qdK (⟨a.Library.Cells⟩ : qv) (h.oldS s1)) (qdK (⟨b.Library.Cells⟩ : qv) (h.oldS s6)) hr1) rfl rfl rfl rfl ?_
 intro w3 h
 refine zp1 rfl (qb ?_)
 refine qr rfl hF ?_ ?_ <;> intro hF
 ·exact zSR (zp1 rfl (qb (qy qc h hF ⟨rfl, trivial⟩)))
 refine zKSSR (zp1 rfl (zl 1 1 h rfl (zp1 rfl (zl 0 1 h rfl ?_))))
 obtain ⟨r2, hr2, hF⟩ := qd hF
 refine qp r2 h call52 (qlO (qbd (⟨a.Design.Instances, a.Design.Nets, a.Design.Ports⟩ : qj) (h.oldS s2) (h.oldS s3) (h.oldS s4)) (qbd (⟨b.Design.Instances, b.Design.Nets, b.Design.Ports⟩ : qj) (h.oldS s7) (h.oldS s8) (h.oldS s9)) hr2) rfl rfl rfl rfl ?_
 intro w4 h
 refine zp1 rfl (qb ?_)
 refine qr rfl hF ?_ ?_ <;> intro hF
 ·exact zSR (zp1 rfl (qb (qy qc h hF ⟨rfl, trivial⟩)))
 refine zKSSR (zp1 rfl (zl 1 4 h rfl (zp1 rfl (zl 0 4 h rfl ?_))))
 obtain ⟨r3, hr3, hF⟩ := qd hF
 refine qp r3 h call53 (qmu ⟨_, _, rfl, (h.oldS s5)⟩ ⟨_, _, rfl, (h.oldS s10)⟩ hr3) rfl rfl rfl rfl ?_
 intro w5 h
 refine zp1 rfl (qb ?_)
 refine qr rfl hF ?_ ?_ <;> intro hF
 ·exact zSR (zp1 rfl (qb (qy qc h hF ⟨rfl, trivial⟩)))
 exact zKSR (zp1 rfl (qb (qy qc h hF ⟨rfl, trivial⟩)))

def qaD (_ : Nat) (a_n : Int) (low : Int) (high : Int) : Option Bool :=
 bif decide (a_n ≥ low) then
  some (decide (a_n ≤ high))
 else
  some false

theorem qal {n : Nat} {w : World} {a_n : Int} {low : Int} {high : Int}  {r : Bool} (hF : qaD n a_n low high = some r) : RetV Tryz.prog 77 [.int .i64 a_n, .int .i64 low, .int .i64 high] w r := by
 refine qe Tryz.func77 rfl (m := 15) rfl rfl (fun h => ?_)
 rw [qaD] at hF
 refine zSR (zp1 rfl (zNSR (zp4 rfl ?_)))
 by_cases hc1 : (decide (a_n ≥ low)) = true
 ·replace hF := bifT hc1 hF
  exact qE hc1 (t := 10) rfl (qa rfl (zp1 rfl (qa rfl (zp1 rfl (qa rfl (zp3 rfl (qb (qy qc h hF ⟨rfl, trivial⟩))))))))
 replace hc1 := zb hc1
 replace hF := bifF hc1 hF
 exact qD hc1 (t := 10) rfl (zn3 rfl (zp2 rfl (qb (qy qc h hF ⟨rfl, trivial⟩))))

def qcL (s : ByteArray) : Nat → Int → Option (Flow Bool Int)
 | 0, _ => none
 | n + 1, i1 =>
  bif decide (i1 < (s.size : Int)) then
   (
    (atS s i1).bind fun y3 =>
    bif decide (y3 ≥ 97) then
     (atS s i1).bind fun y4 =>
     some (decide (y4 ≤ 122))
    else
     some false).bind fun b1 =>
   (
    (atS s i1).bind fun y1 =>
    bif decide (y1 ≥ 48) then
     (atS s i1).bind fun y2 =>
     some (decide (y2 ≤ 57))
    else
     some false).bind fun b2 =>
   bif (!b1) then
    bif b2 then
     bif (!(decide (i1 > 0))) then
      some (.ret false)
     else
      qcL s n (W64 (i1 + 1))
    else
     some (.ret false)
   else
    qcL s n (W64 (i1 + 1))
  else
   some (.nxt i1)

def qfL (n : Nat) (s : ByteArray) : Option Bool :=
 (qcL s n 0).bind fun o => match o with
 | .ret r => some r
 | .nxt _ =>
  bif decide ((s.size : Int) ≥ 1) then
   some (decide ((s.size : Int) ≤ 8))
  else
   some false

theorem qix {n : Nat} {w : World} {s : ByteArray}  {r : Bool} (hF : qfL n s = some r) : RetV Tryz.prog 203 [.string s] w r := by
 refine qe Tryz.func203 rfl (m := 50) rfl rfl (fun h => ?_)
 rw [qfL] at hF
 refine zSR (zp1 rfl (zNSSR (zp1 rfl (qb ?_))))
 obtain ⟨o1, hF, hK1⟩ := qd hF
 refine qw (qP [(0, _), (3, _)] ⟨rfl, rfl, trivial⟩ ?_)
 refine qH (fun m e w' => ∃ (i1 : Int), qcL s m i1 = some o1 ∧ e = [(0, .string s), (3, .int .i64 i1)] ∧ SH w w' []) n ⟨_, hF, rfl, h⟩ ?_
 rintro m1 e1 w1 ⟨i1, hF, rfl, h⟩
 rcases m1 with _ | m1
 ·rw [qcL] at hF
  cases hF
 rw [qcL] at hF
 refine zSSR (zp4 rfl (qb ?_))
 refine qr rfl hF ?_ ?_ <;> intro hF
 ·refine zKSB (qbq ?_)
  obtain ⟨KF2, hKF2, o3, hF, hK3⟩ := bindE hF
  refine qek (fun e w' => ∃ (b1 : Bool), KF2 b1 = some o1 ∧ e = [(0, .string s), (3, .int .i64 i1), (4, .bool b1)] ∧ SH w w' []) ?_ ?_
  ·refine qB (zp2 rfl ?_)
   obtain ⟨y3, hx3, hF⟩ := qd hF
   have g3 := qkr hx3
   refine r_v (qks qc g3 rfl rfl rfl rfl) rfl (zp2 rfl ?_)
   by_cases hc6 : (decide (y3 ≥ 97)) = true
   ·replace hF := bifT hc6 hF
    refine qE hc6 (t := 16) rfl (qa rfl (zp1 rfl (qa rfl (zp1 rfl (qa rfl ?_)))))
    obtain ⟨y4, hx4, hF⟩ := qd hF
    have g4 := qkr hx4
    refine r_v (qks qc g4 rfl rfl rfl rfl) rfl (qa rfl (zp3 rfl (qb ?_)))
    obtain rfl := qh hF
    exact qx [(0, _), (3, _), (4, _)] ⟨rfl, rfl, rfl, trivial⟩ ⟨_, hK3, rfl, h⟩
   replace hc6 := zb hc6
   replace hF := bifF hc6 hF
   refine qD hc6 (t := 16) rfl (zn4 rfl (zp2 rfl (qb ?_)))
   obtain rfl := qh hF
   exact qx [(0, _), (3, _), (4, _)] ⟨rfl, rfl, rfl, trivial⟩ ⟨_, hK3, rfl, h⟩
  rintro e3 w3 ⟨b1, hF, rfl, h⟩
  subst hKF2
  refine qbq ?_
  obtain ⟨KF1, hKF1, o2, hF, hK2⟩ := bindE hF
  refine qek (fun e w' => ∃ (b2 : Bool), KF1 b2 = some o1 ∧ e = [(0, .string s), (3, .int .i64 i1), (4, .bool b1), (5, .bool b2)] ∧ SH w w' []) ?_ ?_
  ·refine qB (zp2 rfl ?_)
   obtain ⟨y1, hx1, hF⟩ := qd hF
   have g1 := qkr hx1
   refine r_v (qks qc g1 rfl rfl rfl rfl) rfl (zp2 rfl ?_)
   by_cases hc5 : (decide (y1 ≥ 48)) = true
   ·replace hF := bifT hc5 hF
    refine qE hc5 (t := 26) rfl (qa rfl (zp1 rfl (qa rfl (zp1 rfl (qa rfl ?_)))))
    obtain ⟨y2, hx2, hF⟩ := qd hF
    have g2 := qkr hx2
    refine r_v (qks qc g2 rfl rfl rfl rfl) rfl (qa rfl (zp3 rfl (qb ?_)))
    obtain rfl := qh hF
    exact qx [(0, _), (3, _), (4, _), (5, _)] ⟨rfl, rfl, rfl, rfl, trivial⟩ ⟨_, hK2, rfl, h⟩
   replace hc5 := zb hc5
   replace hF := bifF hc5 hF
   refine qD hc5 (t := 26) rfl (zn4 rfl (zp2 rfl (qb ?_)))
   obtain rfl := qh hF
   exact qx [(0, _), (3, _), (4, _), (5, _)] ⟨rfl, rfl, rfl, rfl, trivial⟩ ⟨_, hK2, rfl, h⟩
  rintro e2 w2 ⟨b2, hF, rfl, h⟩
  subst hKF1
  refine zSR (zp3 rfl ?_)
  by_cases hc2 : (!b1) = true
  ·replace hF := bifT hc2 hF
   refine qE hc2 (t := 34) rfl (qa rfl (zp1 rfl (qa rfl (zp1 rfl ?_))))
   by_cases hc3 : b2 = true
   ·replace hF := bifT hc3 hF
    refine qE hc3 (t := 36) rfl (qa rfl (zp1 rfl (qa rfl (zp1 rfl (qa rfl (zp1 rfl (qa rfl (zp2 rfl (qb ?_)))))))))
    refine qr rfl hF ?_ ?_ <;> intro hF
    ·refine zSR (zp1 rfl (qb ?_))
     obtain rfl := qh hF; replace hF := hK1
     exact qy qc h hF ⟨rfl, trivial⟩
    exact zKER (zp3 rfl (qb (qA m1 [(0, _), (3, _)] (Nat.lt_succ_self m1) ⟨rfl, rfl, trivial⟩ ⟨_, hF, rfl, h⟩)))
   replace hc3 := zb hc3
   replace hF := bifF hc3 hF
   refine qD hc3 (t := 36) rfl (zn2 rfl (qa rfl (zp1 rfl (qa rfl (zp2 rfl (qb (qe1 rfl rfl (zSR ?_))))))))
   refine zp1 rfl (qb ?_)
   obtain rfl := qh hF; replace hF := hK1
   exact qy qc h hF ⟨rfl, trivial⟩
  replace hc2 := zb hc2
  replace hF := bifF hc2 hF
  refine qD hc2 (t := 34) rfl (zn5 rfl (zn1 rfl (zp1 rfl (qb (qdI rfl rfl (zKE ?_))))))
  exact qB (zp3 rfl (qb (qA m1 [(0, _), (3, _)] (Nat.lt_succ_self m1) ⟨rfl, rfl, trivial⟩ ⟨_, hF, rfl, h⟩)))
 refine qG rfl ?_
 obtain rfl := qh hF; replace hF := hK1
 refine zSR (zp4 rfl ?_)
 by_cases hc7 : (decide ((s.size : Int) ≥ 1)) = true
 ·replace hF := bifT hc7 hF
  exact qE hc7 (t := 45) rfl (qa rfl (zp1 rfl (qa rfl (zp1 rfl (qa rfl (zp3 rfl (qb (qy qc h hF ⟨rfl, trivial⟩))))))))
 replace hc7 := zb hc7
 replace hF := bifF hc7 hF
 exact qD hc7 (t := 45) rfl (zn3 rfl (zp2 rfl (qb (qy qc h hF ⟨rfl, trivial⟩))))

def qdw (a_0 : qC) (i2 : Int) (y1 : qan) : Nat → Int → Option (Flow (Int × Bool) Int)
 | 0, _ => none
 | n + 1, i3 =>
  bif decide (i3 < i2) then
   (idx a_0.Pins i3).bind fun y2 =>
   bif (y2.Name.toList == y1.Name.toList) then
    some (.ret (0, false))
   else
    qdw a_0 i2 y1 n (W64 (i3 + 1))
  else
   some (.nxt i3)

def qcc (a_0 : qC) : Nat → Int → Int → Option (Flow (Int × Bool) (Int × Int))
 | 0, _, _ => none
 | n + 1, i1, i2 =>
  bif decide (i2 < (a_0.Pins.length : Int)) then
   (idx a_0.Pins i2).bind fun y1 =>
   (qdw a_0 i2 y1 n 0).bind fun o => match o with
   | .ret r => some (.ret r)
   | .nxt _ =>
    (
     (qfL n y1.Name).bind fun r1 =>
     bif (!r1) then
      some true
     else
      (qaD n y1.Cap 0 500).bind fun r2 =>
      some (!r2)).bind fun b4 =>
    bif b4 then
     some (.ret (0, false))
    else
     (
      bif (i2 == (W64 ((a_0.Pins.length : Int) - 1))) then
       bif (y1.Dir != 2) then
        some true
       else
        bif (y1.Cap != 0) then
         some true
        else
         bif y1.Clock then
          some true
         else
          bif decide (i2 < (W64 ((a_0.Pins.length : Int) - 1))) then
           some (y1.Dir != 1)
          else
           some false
      else
       bif decide (i2 < (W64 ((a_0.Pins.length : Int) - 1))) then
        some (y1.Dir != 1)
       else
        some false).bind fun b5 =>
     bif b5 then
      some (.ret (0, false))
     else
      bif y1.Clock then
       qcc a_0 n (W64 (i1 + 1)) (W64 (i2 + 1))
      else
       qcc a_0 n i1 (W64 (i2 + 1))
  else
   some (.nxt (i1, i2))

def qhx (n : Nat) (a_0 : qC) : Option (Int × Bool) :=
 (
  bif decide ((a_0.Pins.length : Int) < 2) then
   some true
  else
   some (decide ((a_0.Pins.length : Int) > 5))).bind fun b1 =>
 bif b1 then
  some (0, false)
 else
  (qcc a_0 n 0 0).bind fun o => match o with
  | .ret r => some r
  | .nxt (i1, _) =>
   some (i1, true)

theorem qmb {n : Nat} {w : World} {a_0 : qC} {cs1 : List Value} (ha1 : GoT.R w (old w) a_0 cs1) {r : (Int × Bool)} (hF : qhx n a_0 = some r) : RetV Tryz.prog 215 [GoT.v qC cs1] w r := by
 obtain ⟨p1, k1, p2, k2, p3, k3, rfl, s1, s2, s3⟩ := qY ha1
 refine qe Tryz.func215 rfl (m := 86) rfl rfl (fun h => ?_)
 rw [qhx] at hF
 refine zSR (qN h rfl rfl ?_)
 intro w1 bb1 h
 refine zp2 rfl (zNSR (zp1 rfl (zl 0 2 h rfl (zp2 rfl (zNSS ?_)))))
 obtain ⟨KF3, hKF3, o5, hF, hK5⟩ := bindE hF
 refine qek (fun e w' => ∃ (b1 : Bool), KF3 b1 = some r ∧ e = [(1, .pointer (some ⟨bb1, 0, none⟩)), (4, .int .i64 (a_0.Pins.length : Int)), (17, .bool b1)] ∧ SH w w' [Ch.box bb1 [.string a_0.Name, .int .i64 a_0.Kind, .slice p1 a_0.Pins.length k1, .slice p2 a_0.Arcs.length k2, .slice p3 a_0.Truth.length k3, .int .i64 a_0.Leak, .int .i64 a_0.Energy] 183]) ?_ ?_
 ·refine qB (zp3 rfl ?_)
  by_cases hc17 : (decide ((a_0.Pins.length : Int) < 2)) = true
  ·replace hF := bifT hc17 hF
   refine qE hc17 (t := 14) rfl (zn2 rfl (zp1 rfl (qb ?_)))
   obtain rfl := qh hF
   exact qx [(1, _), (4, _), (17, _)] ⟨rfl, rfl, rfl, trivial⟩ ⟨_, hK5, rfl, h⟩
  replace hc17 := zb hc17
  replace hF := bifF hc17 hF
  refine qD hc17 (t := 14) rfl (qa rfl (zp1 rfl (qa rfl (zp2 rfl (qb ?_)))))
  obtain rfl := qh hF
  exact qx [(1, _), (4, _), (17, _)] ⟨rfl, rfl, rfl, trivial⟩ ⟨_, hK5, rfl, h⟩
 rintro e5 w11 ⟨b1, hF, rfl, h⟩
 subst hKF3
 refine qr rfl hF ?_ ?_ <;> intro hF
 ·refine zSR (zp2 rfl (qb ?_))
  obtain rfl := qh hF
  exact qaj qc (ρ := (Int × Bool)) [GoT.v Int [.int .i64 0], GoT.v Bool [.bool false]] h ⟨rfl, rfl, trivial⟩ (PV.done h (qfk h (qao (S := fun _ => False) rfl) (qap (qao (S := fun _ => False) rfl)) (by rfl)))
 refine zKSR (zp1 rfl (zNSSR (zp1 rfl (qb ?_))))
 obtain ⟨o1, hF, hK1⟩ := qd hF
 refine qw (qP [(1, _), (4, _), (5, _), (6, _)] ⟨rfl, rfl, rfl, rfl, trivial⟩ ?_)
 refine qH (fun m e w' => ∃ (i1 : Int) (i2 : Int), qcc a_0 m i1 i2 = some o1 ∧ e = [(1, .pointer (some ⟨bb1, 0, none⟩)), (4, .int .i64 (a_0.Pins.length : Int)), (5, .int .i64 i1), (6, .int .i64 i2)] ∧ SH w w' [Ch.box bb1 [.string a_0.Name, .int .i64 a_0.Kind, .slice p1 a_0.Pins.length k1, .slice p2 a_0.Arcs.length k2, .slice p3 a_0.Truth.length k3, .int .i64 a_0.Leak, .int .i64 a_0.Energy] 183]) n ⟨_, _, hF, rfl, h⟩ ?_
 rintro m1 e1 w2 ⟨i1, i2, hF, rfl, h⟩
 rcases m1 with _ | m1
 ·rw [qcc] at hF
  cases hF
 rw [qcc] at hF
 refine zSSR (zp3 rfl (qb ?_))
 refine qr rfl hF ?_ ?_ <;> intro hF
 ·refine zKSBSR (zp1 rfl (zl 0 2 h rfl (zp1 rfl ?_)))
  obtain ⟨y1, hy1, hF⟩ := qd hF
  have he1 := qf hy1
  obtain ⟨b2, o_1, q1, cs2, hp1, hq1, -, hr1, hc3⟩ := s1.at hy1
  obtain rfl := qa5 hr1
  refine zxe hp1 hq1 he1 rfl (zc 0 (hc3.below h.below) rfl (qaa qc h rfl rfl rfl ?_))
  intro w3 bb2 h
  refine zs 0 h rfl ?_
  intro w4 h
  refine zNSSR (zp1 rfl (qb ?_))
  obtain ⟨o2, hF, hK2⟩ := qd hF
  refine qw (qP [(1, _), (4, _), (5, _), (6, _), (7, _), (8, _)] ⟨rfl, rfl, rfl, rfl, rfl, rfl, trivial⟩ ?_)
  refine qH (fun m e w' => ∃ (i3 : Int), qdw a_0 i2 y1 m i3 = some o2 ∧ e = [(1, .pointer (some ⟨bb1, 0, none⟩)), (4, .int .i64 (a_0.Pins.length : Int)), (5, .int .i64 i1), (6, .int .i64 i2), (7, .pointer (some ⟨bb2, 0, none⟩)), (8, .int .i64 i3)] ∧ SH w w' [Ch.box bb2 [.string y1.Name, .int .i64 y1.Dir, .int .i64 y1.Cap, .bool y1.Clock] 238, Ch.box bb1 [.string a_0.Name, .int .i64 a_0.Kind, .slice p1 a_0.Pins.length k1, .slice p2 a_0.Arcs.length k2, .slice p3 a_0.Truth.length k3, .int .i64 a_0.Leak, .int .i64 a_0.Energy] 183]) m1 ⟨_, hF, rfl, h⟩ ?_
  rintro m2 e2 w5 ⟨i3, hF, rfl, h⟩
  rcases m2 with _ | m2
  ·rw [qdw] at hF
   cases hF
  rw [qdw] at hF
  refine zSSR (zp3 rfl (qb ?_))
  refine qr rfl hF ?_ ?_ <;> intro hF
  ·refine zKSB (qbq ?_)
   refine qcN rfl (by kernel_rfl) ?_
   refine zd1 rfl ?_
   refine zdl 1 2 h rfl ?_
   refine zd1 rfl ?_
   obtain ⟨y2, hy2, hF⟩ := qd hF
   have he2 := qf hy2
   obtain ⟨b3, o_2, q2, cs3, hp2, hq2, -, hr2, hc5⟩ := s1.at hy2
   obtain rfl := qa5 hr2
   refine zdxe hp2 hq2 he2 rfl ?_
   refine zd1 rfl ?_
   refine zdc 0 (hc5.below h.below) rfl ?_
   refine zd1 rfl ?_
   refine zdl 0 0 h rfl ?_
   refine zd1 rfl ?_
   refine qbj (fun w6 hb => ?_)
   replace h := h.ext hb
   clear hb
   refine qr rfl hF ?_ ?_ <;> intro hF
   ·refine zSR (zp2 rfl (qb ?_))
    obtain rfl := qh hF; replace hF := hK2
    obtain rfl := qh hF; replace hF := hK1
    obtain rfl := qh hF
    exact qaj qc (ρ := (Int × Bool)) [GoT.v Int [.int .i64 0], GoT.v Bool [.bool false]] h ⟨rfl, rfl, trivial⟩ (PV.done h (qfk h (qao (S := fun _ => False) rfl) (qap (qao (S := fun _ => False) rfl)) (by rfl)))
   exact zKER (zp3 rfl (qb (qA m2 [(1, _), (4, _), (5, _), (6, _), (7, _), (8, _)] (Nat.lt_succ_self m2) ⟨rfl, rfl, rfl, rfl, rfl, rfl, trivial⟩ ⟨_, hF, rfl, h⟩)))
  refine qG rfl ?_
  obtain rfl := qh hF; replace hF := hK2
  refine zSS ?_
  obtain ⟨KF2, hKF2, o4, hF, hK4⟩ := bindE hF
  refine qek (fun e w' => ∃ (b4 : Bool), KF2 b4 = some o1 ∧ e = [(1, .pointer (some ⟨bb1, 0, none⟩)), (4, .int .i64 (a_0.Pins.length : Int)), (5, .int .i64 i1), (6, .int .i64 i2), (7, .pointer (some ⟨bb2, 0, none⟩)), (51, .bool b4)] ∧ SH w w' [Ch.box bb2 [.string y1.Name, .int .i64 y1.Dir, .int .i64 y1.Cap, .bool y1.Clock] 238, Ch.box bb1 [.string a_0.Name, .int .i64 a_0.Kind, .slice p1 a_0.Pins.length k1, .slice p2 a_0.Arcs.length k2, .slice p3 a_0.Truth.length k3, .int .i64 a_0.Leak, .int .i64 a_0.Energy] 183]) ?_ ?_
  ·refine qB (zp1 rfl (zl 0 0 h rfl ?_))
   obtain ⟨r1, hr3, hF⟩ := qd hF
   refine qp r1 h call203 (qix hr3) rfl rfl rfl rfl ?_
   intro w8 h
   refine zp2 rfl ?_
   by_cases hc16 : (!r1) = true
   ·replace hF := bifT hc16 hF
    refine qE hc16 (t := 46) rfl (zn4 rfl (zp1 rfl (qb ?_)))
    obtain rfl := qh hF
    exact qx [(1, _), (4, _), (5, _), (6, _), (7, _), (51, _)] ⟨rfl, rfl, rfl, rfl, rfl, rfl, trivial⟩ ⟨_, hK4, rfl, h⟩
   replace hc16 := zb hc16
   replace hF := bifF hc16 hF
   refine qD hc16 (t := 46) rfl (qa rfl (zp1 rfl (qa rfl (zl 0 2 h rfl (qa rfl ?_)))))
   obtain ⟨r2, hr4, hF⟩ := qd hF
   refine qp r2 h call77 (qal hr4) rfl rfl rfl rfl ?_
   intro w9 h
   refine qa rfl (zp2 rfl (qb ?_))
   obtain rfl := qh hF
   exact qx [(1, _), (4, _), (5, _), (6, _), (7, _), (51, _)] ⟨rfl, rfl, rfl, rfl, rfl, rfl, trivial⟩ ⟨_, hK4, rfl, h⟩
  rintro e4 w10 ⟨b4, hF, rfl, h⟩
  subst hKF2
  refine qr rfl hF ?_ ?_ <;> intro hF
  ·refine zSR (zp2 rfl (qb ?_))
   obtain rfl := qh hF; replace hF := hK1
   obtain rfl := qh hF
   exact qaj qc (ρ := (Int × Bool)) [GoT.v Int [.int .i64 0], GoT.v Bool [.bool false]] h ⟨rfl, rfl, trivial⟩ (PV.done h (qfk h (qao (S := fun _ => False) rfl) (qap (qao (S := fun _ => False) rfl)) (by rfl)))
  refine zKSS ?_
  obtain ⟨KF1, hKF1, o3, hF, hK3⟩ := bindE hF
  refine qek (fun e w' => ∃ (b5 : Bool), KF1 b5 = some o1 ∧ e = [(1, .pointer (some ⟨bb1, 0, none⟩)), (4, .int .i64 (a_0.Pins.length : Int)), (5, .int .i64 i1), (6, .int .i64 i2), (7, .pointer (some ⟨bb2, 0, none⟩)), (80, .bool b5)] ∧ SH w w' [Ch.box bb2 [.string y1.Name, .int .i64 y1.Dir, .int .i64 y1.Cap, .bool y1.Clock] 238, Ch.box bb1 [.string a_0.Name, .int .i64 a_0.Kind, .slice p1 a_0.Pins.length k1, .slice p2 a_0.Arcs.length k2, .slice p3 a_0.Truth.length k3, .int .i64 a_0.Leak, .int .i64 a_0.Energy] 183]) ?_ ?_
  ·refine qB (zp5 rfl ?_)
   by_cases hc10 : (i2 == (W64 ((a_0.Pins.length : Int) - 1))) = true
   ·replace hF := bifT hc10 hF
    refine qE hc10 (t := 56) rfl (qa rfl (zp1 rfl (qa rfl (zl 0 1 h rfl (qa rfl (zp1 rfl (qa rfl (zp1 rfl ?_))))))))
    by_cases hc11 : (y1.Dir != 2) = true
    ·replace hF := bifT hc11 hF
     refine qE hc11 (t := 60) rfl (zn3 rfl (qa rfl (zp1 rfl (qa rfl (zp1 rfl (zn2 rfl (qa rfl (zp1 rfl ?_))))))))
     refine zp2 rfl (zn5 rfl (zn4 rfl (zp1 rfl ?_)))
     refine qb ?_
     obtain rfl := qh hF
     exact qx [(1, _), (4, _), (5, _), (6, _), (7, _), (80, _)] ⟨rfl, rfl, rfl, rfl, rfl, rfl, trivial⟩ ⟨_, hK3, rfl, h⟩
    replace hc11 := zb hc11
    replace hF := bifF hc11 hF
    refine qD hc11 (t := 60) rfl (qa rfl (zp1 rfl (qa rfl (zl 0 2 h rfl (qa rfl (zp1 rfl (qa rfl (zp1 rfl (qa rfl (zp1 rfl ?_))))))))))
    by_cases hc12 : (y1.Cap != 0) = true
    ·replace hF := bifT hc12 hF
     refine qE hc12 (t := 65) rfl (zn2 rfl (qa rfl (zp3 rfl (zn5 rfl ?_))))
     refine zn4 rfl (zp1 rfl (qb ?_))
     obtain rfl := qh hF
     exact qx [(1, _), (4, _), (5, _), (6, _), (7, _), (80, _)] ⟨rfl, rfl, rfl, rfl, rfl, rfl, trivial⟩ ⟨_, hK3, rfl, h⟩
    replace hc12 := zb hc12
    replace hF := bifF hc12 hF
    refine qD hc12 (t := 65) rfl (qa rfl (zp1 rfl (qa rfl (zl 0 3 h rfl (qa rfl (zp3 rfl ?_))))))
    by_cases hc13 : y1.Clock = true
    ·replace hF := bifT hc13 hF
     refine qE hc13 (t := 70) rfl (zn5 rfl (zn4 rfl (zp1 rfl (qb ?_))))
     obtain rfl := qh hF
     exact qx [(1, _), (4, _), (5, _), (6, _), (7, _), (80, _)] ⟨rfl, rfl, rfl, rfl, rfl, rfl, trivial⟩ ⟨_, hK3, rfl, h⟩
    replace hc13 := zb hc13
    replace hF := bifF hc13 hF
    refine qD hc13 (t := 70) rfl (qa rfl (zp1 rfl (qa rfl (zp1 rfl (qa rfl (zp1 rfl (qa rfl (zp1 rfl (qa rfl (zp1 rfl ?_))))))))))
    by_cases hc14 : (decide (i2 < (W64 ((a_0.Pins.length : Int) - 1)))) = true
    ·replace hF := bifT hc14 hF
     refine qE hc14 (t := 75) rfl (qa rfl (zp1 rfl (qa rfl (zl 0 1 h rfl (qa rfl (zp1 rfl (qa rfl (zp2 rfl (qb ?_)))))))))
     obtain rfl := qh hF
     exact qx [(1, _), (4, _), (5, _), (6, _), (7, _), (80, _)] ⟨rfl, rfl, rfl, rfl, rfl, rfl, trivial⟩ ⟨_, hK3, rfl, h⟩
    replace hc14 := zb hc14
    replace hF := bifF hc14 hF
    refine qD hc14 (t := 75) rfl (zn3 rfl (qa rfl (zp2 rfl (qb ?_))))
    obtain rfl := qh hF
    exact qx [(1, _), (4, _), (5, _), (6, _), (7, _), (80, _)] ⟨rfl, rfl, rfl, rfl, rfl, rfl, trivial⟩ ⟨_, hK3, rfl, h⟩
   replace hc10 := zb hc10
   replace hF := bifF hc10 hF
   refine qD hc10 (t := 56) rfl (zn5 rfl (zn5 rfl (zn1 rfl ?_)))
   refine zn1 rfl (zp2 rfl (qa rfl (zp1 rfl (qa rfl (zp1 rfl (qa rfl (zp1 rfl (qa rfl (zp1 rfl (qa rfl ?_))))))))))
   refine zp1 rfl ?_
   by_cases hc15 : (decide (i2 < (W64 ((a_0.Pins.length : Int) - 1)))) = true
   ·replace hF := bifT hc15 hF
    refine qE hc15 (t := 75) rfl (qa rfl (zp1 rfl (qa rfl (zl 0 1 h rfl (qa rfl (zp1 rfl (qa rfl (zp2 rfl (qb ?_)))))))))
    obtain rfl := qh hF
    exact qx [(1, _), (4, _), (5, _), (6, _), (7, _), (80, _)] ⟨rfl, rfl, rfl, rfl, rfl, rfl, trivial⟩ ⟨_, hK3, rfl, h⟩
   replace hc15 := zb hc15
   replace hF := bifF hc15 hF
   refine qD hc15 (t := 75) rfl (zn3 rfl (qa rfl (zp2 rfl (qb ?_))))
   obtain rfl := qh hF
   exact qx [(1, _), (4, _), (5, _), (6, _), (7, _), (80, _)] ⟨rfl, rfl, rfl, rfl, rfl, rfl, trivial⟩ ⟨_, hK3, rfl, h⟩
  rintro e3 w7 ⟨b5, hF, rfl, h⟩
  subst hKF1
  refine qr rfl hF ?_ ?_ <;> intro hF
  ·refine zSR (zp2 rfl (qb ?_))
   obtain rfl := qh hF; replace hF := hK1
   obtain rfl := qh hF
   exact qaj qc (ρ := (Int × Bool)) [GoT.v Int [.int .i64 0], GoT.v Bool [.bool false]] h ⟨rfl, rfl, trivial⟩ (PV.done h (qfk h (qao (S := fun _ => False) rfl) (qap (qao (S := fun _ => False) rfl)) (by rfl)))
  refine zKSR (zp1 rfl (zl 0 3 h rfl (qb ?_)))
  refine qr rfl hF ?_ ?_ <;> intro hF
  ·refine qB (zp3 rfl (zNER (zp3 rfl (qb ?_))))
   replace h := h.pick [1] rfl
   exact qA m1 [(1, _), (4, _), (5, _), (6, _)] (Nat.lt_succ_self m1) ⟨rfl, rfl, rfl, rfl, trivial⟩ ⟨_, _, hF, rfl, h⟩
  refine zKER (zp3 rfl (qb ?_))
  replace h := h.pick [1] rfl
  exact qA m1 [(1, _), (4, _), (5, _), (6, _)] (Nat.lt_succ_self m1) ⟨rfl, rfl, rfl, rfl, trivial⟩ ⟨_, _, hF, rfl, h⟩
 refine qG rfl ?_
 obtain rfl := qh hF; replace hF := hK1
 refine zSR (zp3 rfl (qb ?_))
 obtain rfl := qh hF
 exact qaj qc (ρ := (Int × Bool)) [GoT.v Int [.int .i64 i1], GoT.v Bool [.bool true]] h ⟨rfl, rfl, trivial⟩ (PV.done h (qfk h (qao (S := fun _ => False) rfl) (qap (qao (S := fun _ => False) rfl)) (by rfl)))

def qcK (list : (List Int)) : Nat → Int → Option (Flow Bool Int)
 | 0, _ => none
 | n + 1, i1 =>
  bif decide (i1 < (list.length : Int)) then
   (idx list i1).bind fun y1 =>
   (qaD n y1 0 100000).bind fun r1 =>
   bif (!r1) then
    some (.ret false)
   else
    bif decide (i1 > 0) then
     (idx list (W64 (i1 - 1))).bind fun y2 =>
     (idx list i1).bind fun y3 =>
     bif decide (y2 ≥ y3) then
      some (.ret false)
     else
      qcK list n (W64 (i1 + 1))
    else
     qcK list n (W64 (i1 + 1))
  else
   some (.nxt i1)

def qgB (n : Nat) (list : (List Int)) : Option Bool :=
 (qcK list n 0).bind fun o => match o with
 | .ret r => some r
 | .nxt _ =>
  bif decide ((list.length : Int) ≥ 1) then
   some (decide ((list.length : Int) ≤ 4))
  else
   some false

theorem qjU {n : Nat} {w : World} {list : (List Int)} {cs1 : List Value} (ha1 : GoT.R w (old w) list cs1) {r : Bool} (hF : qgB n list = some r) : RetV Tryz.prog 260 [GoT.v (List Int) cs1] w r := by
 obtain ⟨p1, k1, rfl, s1⟩ := ha1
 refine qe Tryz.func260 rfl (m := 40) rfl rfl (fun h => ?_)
 rw [qgB] at hF
 refine zSR (zp1 rfl (zNSSR (zp1 rfl (qb ?_))))
 obtain ⟨o1, hF, hK1⟩ := qd hF
 refine qw (qP [(0, _), (3, _)] ⟨rfl, rfl, trivial⟩ ?_)
 refine qH (fun m e w' => ∃ (i1 : Int), qcK list m i1 = some o1 ∧ e = [(0, .slice p1 list.length k1), (3, .int .i64 i1)] ∧ SH w w' []) n ⟨_, hF, rfl, h⟩ ?_
 rintro m1 e1 w1 ⟨i1, hF, rfl, h⟩
 rcases m1 with _ | m1
 ·rw [qcK] at hF
  cases hF
 rw [qcK] at hF
 refine zSSR (zp4 rfl (qb ?_))
 refine qr rfl hF ?_ ?_ <;> intro hF
 ·refine zKSB (qbq ?_)
  refine qcN rfl (by kernel_rfl) ?_
  refine zd2 rfl ?_
  obtain ⟨y1, hy1, hF⟩ := qd hF
  have he1 := qf hy1
  obtain ⟨b1, o_1, q1, cs2, hp1, hq1, -, hr1, hc2⟩ := s1.at hy1
  obtain rfl := hr1
  refine zdxe hp1 hq1 he1 rfl ?_
  refine zdc 0 (hc2.below h.below) rfl ?_
  obtain ⟨r1, hr2, hF⟩ := qd hF
  refine qcO r1 (vsB _) call77 (fun _ hb => qal  hr2) rfl rfl rfl rfl ?_
  refine zd2 rfl ?_
  by_cases hc3 : (!r1) = true
  ·replace hF := bifT hc3 hF
   refine qdc hc3 (t := 16) rfl (qk rfl rfl rfl (qk rfl rfl rfl (qk rfl rfl rfl (qk rfl rfl rfl (qk rfl rfl rfl (qk rfl rfl rfl (qk rfl rfl rfl (qk rfl rfl rfl (qk rfl rfl rfl (qk rfl rfl rfl (qk rfl rfl rfl ?_)))))))))))
   refine qk rfl rfl rfl (qk rfl rfl rfl (qk rfl rfl rfl (zd1 rfl ?_)))
   refine qbj (fun w2 hb => ?_)
   replace h := h.ext hb
   clear hb
   refine qe1 rfl rfl (zSR (zp1 rfl (qb ?_)))
   obtain rfl := qh hF; replace hF := hK1
   exact qy qc h hF ⟨rfl, trivial⟩
  replace hc3 := zb hc3
  replace hF := bifF hc3 hF
  refine qdk hc3 (t := 16) rfl (qi rfl (zd1 rfl (qi rfl (zd1 rfl (qi rfl (zd1 rfl ?_))))))
  by_cases hc4 : (decide (i1 > 0)) = true
  ·replace hF := bifT hc4 hF
   refine qdc hc4 (t := 19) rfl (qi rfl (zd1 rfl (qi rfl (zd1 rfl (qi rfl (zd1 rfl (qi rfl ?_)))))))
   obtain ⟨y2, hy2, hF⟩ := qd hF
   have he2 := qf hy2
   obtain ⟨b2, o_2, q2, cs3, hp2, hq2, -, hr3, hc5⟩ := s1.at hy2
   obtain rfl := hr3
   refine zdxe hp2 hq2 he2 rfl ?_
   refine qi rfl ?_
   refine zdc 0 (hc5.below h.below) rfl ?_
   refine qi rfl (zd1 rfl (qi rfl (zd1 rfl (qi rfl ?_))))
   obtain ⟨y3, hy3, hF⟩ := qd hF
   have he3 := qf hy3
   obtain ⟨b3, o_3, q3, cs4, hp3, hq3, -, hr4, hc6⟩ := s1.at hy3
   obtain rfl := hr4
   refine zdxe hp3 hq3 he3 rfl ?_
   refine qi rfl ?_
   refine zdc 0 (hc6.below h.below) rfl ?_
   refine qi rfl (zd1 rfl (qi rfl (zd2 rfl ?_)))
   refine qbj (fun w3 hb => ?_)
   replace h := h.ext hb
   clear hb
   refine qr rfl hF ?_ ?_ <;> intro hF
   ·refine zSR (zp1 rfl (qb ?_))
    obtain rfl := qh hF; replace hF := hK1
    exact qy qc h hF ⟨rfl, trivial⟩
   exact zKER (zp3 rfl (qb (qA m1 [(0, _), (3, _)] (Nat.lt_succ_self m1) ⟨rfl, rfl, trivial⟩ ⟨_, hF, rfl, h⟩)))
  replace hc4 := zb hc4
  replace hF := bifF hc4 hF
  refine qdk hc4 (t := 19) rfl (qk rfl rfl rfl (qk rfl rfl rfl (qk rfl rfl rfl (qk rfl rfl rfl (qk rfl rfl rfl (qk rfl rfl rfl (qk rfl rfl rfl (qk rfl rfl rfl (qk rfl rfl rfl (qk rfl rfl rfl (qi rfl ?_)))))))))))
  refine zd2 rfl ?_
  refine qbj (fun w4 hb => ?_)
  replace h := h.ext hb
  clear hb
  exact qdI rfl rfl (zKER (zp3 rfl (qb (qA m1 [(0, _), (3, _)] (Nat.lt_succ_self m1) ⟨rfl, rfl, trivial⟩ ⟨_, hF, rfl, h⟩))))
 refine qG rfl ?_
 obtain rfl := qh hF; replace hF := hK1
 refine zSR (zp4 rfl ?_)
 by_cases hc8 : (decide ((list.length : Int) ≥ 1)) = true
 ·replace hF := bifT hc8 hF
  exact qE hc8 (t := 35) rfl (qa rfl (zp1 rfl (qa rfl (zp1 rfl (qa rfl (zp3 rfl (qb (qy qc h hF ⟨rfl, trivial⟩))))))))
 replace hc8 := zb hc8
 replace hF := bifF hc8 hF
 exact qD hc8 (t := 35) rfl (zn3 rfl (zp2 rfl (qb (qy qc h hF ⟨rfl, trivial⟩))))

def qdu (t : qF) : Nat → Int → Option (Flow Bool Int)
 | 0, _ => none
 | n + 1, i1 =>
  bif decide (i1 < (t.Values.length : Int)) then
   (idx t.Values i1).bind fun y1 =>
   (qaD n y1 (-1000000) 1000000).bind fun r1 =>
   bif (!r1) then
    some (.ret false)
   else
    qdu t n (W64 (i1 + 1))
  else
   some (.nxt i1)

def qhA (n : Nat) (t : qF) : Option Bool :=
 (
  (qgB n t.Slews).bind fun r2 =>
  bif (!r2) then
   some true
  else
   (qgB n t.Loads).bind fun r3 =>
   bif (!r3) then
    some true
   else
    some ((t.Values.length : Int) != (W64 ((t.Slews.length : Int) * (t.Loads.length : Int))))).bind fun b1 =>
 bif b1 then
  some false
 else
  (qdu t n 0).bind fun o => match o with
  | .ret r => some r
  | .nxt _ =>
   some true

theorem qmc {n : Nat} {w : World} {t : qF} {cs1 : List Value} (ha1 : GoT.R w (old w) t cs1) {r : Bool} (hF : qhA n t = some r) : RetV Tryz.prog 248 [GoT.v qF cs1] w r := by
 obtain ⟨p1, k1, p2, k2, p3, k3, rfl, s1, s2, s3⟩ := qbF ha1
 refine qe Tryz.func248 rfl (m := 41) rfl rfl (fun h => ?_)
 rw [qhA] at hF
 refine zSR (qN h rfl rfl ?_)
 intro w1 bb1 h
 refine zp1 rfl (zNSS ?_)
 obtain ⟨KF1, hKF1, o2, hF, hK2⟩ := bindE hF
 refine qek (fun e w' => ∃ (b1 : Bool), KF1 b1 = some r ∧ e = [(1, .pointer (some ⟨bb1, 0, none⟩)), (26, .bool b1)] ∧ SH w w' [Ch.box bb1 [.slice p1 t.Slews.length k1, .slice p2 t.Loads.length k2, .slice p3 t.Values.length k3] 267]) ?_ ?_
 ·refine qB (zp1 rfl (zl 0 0 h rfl ?_))
  obtain ⟨r2, hr3, hF⟩ := qd hF
  refine qp r2 h call260 (qjU ⟨_, _, rfl, (h.oldS s1)⟩ hr3) rfl rfl rfl rfl ?_
  intro w4 h
  refine zp2 rfl ?_
  by_cases hc5 : (!r2) = true
  ·replace hF := bifT hc5 hF
   refine qE hc5 (t := 8) rfl (zn4 rfl (zp2 rfl (zn5 rfl ?_)))
   refine zn5 rfl (zn1 rfl (zp1 rfl (qb ?_)))
   obtain rfl := qh hF
   exact qx [(1, _), (26, _)] ⟨rfl, rfl, trivial⟩ ⟨_, hK2, rfl, h⟩
  replace hc5 := zb hc5
  replace hF := bifF hc5 hF
  refine qD hc5 (t := 8) rfl (qa rfl (zp1 rfl (qa rfl (zl 0 1 h rfl (qa rfl ?_)))))
  obtain ⟨r3, hr4, hF⟩ := qd hF
  refine qp r3 h call260 (qjU ⟨_, _, rfl, (h.oldS s2)⟩ hr4) rfl rfl rfl rfl ?_
  intro w5 h
  refine qa rfl (zp3 rfl ?_)
  by_cases hc6 : (!r3) = true
  ·replace hF := bifT hc6 hF
   refine qE hc6 (t := 14) rfl (zn5 rfl (zn5 rfl (zn1 rfl ?_)))
   refine zp1 rfl (qb ?_)
   obtain rfl := qh hF
   exact qx [(1, _), (26, _)] ⟨rfl, rfl, trivial⟩ ⟨_, hK2, rfl, h⟩
  replace hc6 := zb hc6
  replace hF := bifF hc6 hF
  refine qD hc6 (t := 14) rfl (qa rfl (zp1 rfl (qa rfl (zl 0 2 h rfl (qa rfl (zp1 rfl (qa rfl (zp1 rfl (qa rfl (zl 0 0 h rfl (qa rfl ?_)))))))))))
  refine zp1 rfl (qa rfl (zp1 rfl (qa rfl (zl 0 1 h rfl (qa rfl (zp1 rfl (qa rfl (zp1 rfl (qa rfl (zp2 rfl ?_))))))))))
  refine qb ?_
  obtain rfl := qh hF
  exact qx [(1, _), (26, _)] ⟨rfl, rfl, trivial⟩ ⟨_, hK2, rfl, h⟩
 rintro e2 w6 ⟨b1, hF, rfl, h⟩
 subst hKF1
 refine qr rfl hF ?_ ?_ <;> intro hF
 ·exact zSR (zp1 rfl (qb (qy qc h hF ⟨rfl, trivial⟩)))
 refine zKSSR (zp1 rfl (qb ?_))
 obtain ⟨o1, hF, hK1⟩ := qd hF
 refine qw (qP [(1, _), (3, _)] ⟨rfl, rfl, trivial⟩ ?_)
 refine qH (fun m e w' => ∃ (i1 : Int), qdu t m i1 = some o1 ∧ e = [(1, .pointer (some ⟨bb1, 0, none⟩)), (3, .int .i64 i1)] ∧ SH w w' [Ch.box bb1 [.slice p1 t.Slews.length k1, .slice p2 t.Loads.length k2, .slice p3 t.Values.length k3] 267]) n ⟨_, hF, rfl, h⟩ ?_
 rintro m1 e1 w2 ⟨i1, hF, rfl, h⟩
 rcases m1 with _ | m1
 ·rw [qdu] at hF
  cases hF
 rw [qdu] at hF
 refine zSSR (zp2 rfl (zl 0 2 h rfl (zp2 rfl (qb ?_))))
 refine qr rfl hF ?_ ?_ <;> intro hF
 ·refine zKSBSR (zp1 rfl (zl 0 2 h rfl (zp1 rfl ?_)))
  obtain ⟨y1, hy1, hF⟩ := qd hF
  have he1 := qf hy1
  obtain ⟨b2, o_1, q1, cs2, hp1, hq1, -, hr1, hc3⟩ := s3.at hy1
  obtain rfl := hr1
  refine zxe hp1 hq1 he1 rfl (zc 0 (hc3.below h.below) rfl ?_)
  obtain ⟨r1, hr2, hF⟩ := qd hF
  refine qp r1 h call77 (qal hr2) rfl rfl rfl rfl ?_
  intro w3 h
  refine zp1 rfl (qb ?_)
  refine qr rfl hF ?_ ?_ <;> intro hF
  ·refine zSR (zp1 rfl (qb ?_))
   obtain rfl := qh hF; replace hF := hK1
   exact qy qc h hF ⟨rfl, trivial⟩
  exact zKER (zp3 rfl (qb (qA m1 [(1, _), (3, _)] (Nat.lt_succ_self m1) ⟨rfl, rfl, trivial⟩ ⟨_, hF, rfl, h⟩)))
 refine qG rfl ?_
 obtain rfl := qh hF; replace hF := hK1
 exact zSR (zp1 rfl (qb (qy qc h hF ⟨rfl, trivial⟩)))

def qbU (t : qF) : Nat → Int → Int → Int → Option (Int × Int × Int)
 | 0, _, _, _ => none
 | n + 1, i1, i2, i3 =>
  bif decide (i3 < (t.Values.length : Int)) then
   (idx t.Values i3).bind fun y3 =>
   (idx t.Values i3).bind fun y4 =>
   qbU t n (if y3 < i1 then y3 else i1) (if y4 > i2 then y4 else i2) (W64 (i3 + 1))
  else
   some (i1, i2, i3)

def qft (n : Nat) (t : qF) : Option (qiV × Int) :=
 (qhA n t).bind fun r1 =>
 bif (!r1) then
  some ((⟨0, 0⟩ : qiV), 1)
 else
  (idx t.Values 0).bind fun y1 =>
  (idx t.Values 0).bind fun y2 =>
  (qbU t n y1 y2 1).bind fun o => match o with
  | (i1, i2, _) =>
   some ((⟨i1, i2⟩ : qiV), 0)

theorem qkI {n : Nat} {w : World} {t : qF} {cs1 : List Value} (ha1 : GoT.R w (old w) t cs1) {r : (qiV × Int)} (hF : qft n t = some r) : RetV Tryz.prog 234 [GoT.v qF cs1] w r := by
 obtain ⟨p1, k1, p2, k2, p3, k3, rfl, s1, s2, s3⟩ := qbF ha1
 refine qe Tryz.func234 rfl (m := 45) rfl rfl (fun h => ?_)
 rw [qft] at hF
 refine zSR (qN h rfl rfl ?_)
 intro w1 bb1 h
 refine qaa qc h rfl rfl rfl ?_
 intro w2 bb2 h
 refine zp1 rfl (zNSSR (zl 1 0 h rfl ?_))
 obtain ⟨r1, hr1, hF⟩ := qd hF
 refine qp r1 h call248 (qmc (h.old ha1) hr1) rfl rfl rfl rfl ?_
 intro w3 h
 refine zp1 rfl (qb ?_)
 refine qr rfl hF ?_ ?_ <;> intro hF
 ·refine zSR (r_v (qhq qc [] [] rfl rfl rfl rfl rfl rfl rfl rfl) rfl (zs 0 h rfl ?_))
  intro w4 h
  refine zp1 rfl (qb ?_)
  obtain rfl := qh hF
  exact qaj qc (ρ := (qiV × Int)) [GoT.v qiV [.int .i64 0, .int .i64 0], GoT.v Int [.int .i64 1]] h ⟨⟨_, _, _, rfl, rfl, h.box 0 rfl, rfl⟩, rfl, trivial⟩ (PV.done h (qfk h (qao (S := fun _ => False) (qn2 (⟨0, 0⟩ : qiV))) (qap (qao (S := fun _ => False) rfl)) (by rfl)))
 refine zKS ?_
 refine qge [] (fun w' => SH w w' [Ch.box bb1 [.slice p1 t.Slews.length k1, .slice p2 t.Loads.length k2, .slice p3 t.Values.length k3] 267]) rfl 11 rfl #[ff, ff, ff, ff, ff, ff, ff, ff, ff, ff, ff] (by kernel_rfl) (fun w5 hb => ?_)
 replace h := h.ext hb
 clear hb
 refine ql 0 rfl #[tt, ff, ff, ff, ff, ff, ff, ff, ff, ff, ff] (by kernel_rfl) (by kernel_rfl) (fun w' hw => v_p qc rfl w') (h.pick [1] rfl) rfl ?_
 refine ql 1 rfl #[tt, tt, ff, ff, ff, ff, ff, ff, ff, ff, ff] (by kernel_rfl) (by kernel_rfl) (fun w' hw => qbI qc (hw.box 0 rfl) (j := 2) rfl rfl rfl) (h.pick [1] rfl) rfl ?_
 obtain ⟨y1, hy1, hF⟩ := qd hF
 have he1 := qf hy1
 obtain ⟨b1, o_1, q1, cs2, hp1, hq1, -, hr2, hc2⟩ := s3.at hy1
 obtain rfl := hr2
 refine ql 2 rfl #[tt, tt, tt, ff, ff, ff, ff, ff, ff, ff, ff] (by kernel_rfl) (by kernel_rfl) (fun w' hw => qf6 qc hp1 hq1 ⟨he1.1, he1.2.1⟩ rfl rfl rfl rfl rfl rfl) (h.pick [1] rfl) rfl ?_
 refine ql 3 rfl #[tt, tt, tt, tt, ff, ff, ff, ff, ff, ff, ff] (by kernel_rfl) (by kernel_rfl) (fun w' hw => qbI qc (hc2.below hw.below) (j := 0) rfl rfl rfl) (h.pick [1] rfl) rfl ?_
 refine ql 4 rfl #[tt, tt, tt, tt, tt, ff, ff, ff, ff, ff, ff] (by kernel_rfl) (by kernel_rfl) (fun w' hw => v_p qc rfl w') (h.pick [1] rfl) rfl ?_
 refine ql 5 rfl #[tt, tt, tt, tt, tt, tt, ff, ff, ff, ff, ff] (by kernel_rfl) (by kernel_rfl) (fun w' hw => qbI qc (hw.box 0 rfl) (j := 2) rfl rfl rfl) (h.pick [1] rfl) rfl ?_
 obtain ⟨y2, hy2, hF⟩ := qd hF
 have he2 := qf hy2
 obtain ⟨b2, o_2, q2, cs3, hp2, hq2, -, hr3, hc3⟩ := s3.at hy2
 obtain rfl := hr3
 refine ql 6 rfl #[tt, tt, tt, tt, tt, tt, tt, ff, ff, ff, ff] (by kernel_rfl) (by kernel_rfl) (fun w' hw => qf6 qc hp2 hq2 ⟨he2.1, he2.2.1⟩ rfl rfl rfl rfl rfl rfl) (h.pick [1] rfl) rfl ?_
 refine ql 7 rfl #[tt, tt, tt, tt, tt, tt, tt, tt, ff, ff, ff] (by kernel_rfl) (by kernel_rfl) (fun w' hw => qbI qc (hc3.below hw.below) (j := 0) rfl rfl rfl) (h.pick [1] rfl) rfl ?_
 refine ql 8 rfl #[tt, tt, tt, tt, tt, tt, tt, tt, tt, ff, ff] (by kernel_rfl) (by kernel_rfl) (fun w' hw => qhq qc [0, 1] [.tmp 13, .tmp 17] rfl rfl rfl rfl rfl rfl rfl rfl) (h.pick [1] rfl) rfl ?_
 refine qaI 9 rfl #[tt, tt, tt, tt, tt, tt, tt, tt, tt, tt, ff] (by kernel_rfl) (by kernel_rfl) ?_
 refine qaa qc h rfl rfl rfl ?_
 intro w6 bb3 h
 refine qaw (fun _ => (h.pick [2] rfl)) ?_
 refine qaI 10 rfl #[tt, tt, tt, tt, tt, tt, tt, tt, tt, tt, tt] (by kernel_rfl) (by kernel_rfl) ?_
 refine zs 0 h rfl ?_
 intro w7 h
 refine qaw (fun _ => (h.pick [2] rfl)) ?_
 refine qd4 (by kernel_rfl) ?_
 refine zSSR (zp1 rfl (qb ?_))
 obtain ⟨o1, hF, hK1⟩ := qd hF
 refine qw (qP [(1, _), (2, _), (4, _), (5, _)] ⟨rfl, rfl, rfl, rfl, trivial⟩ ?_)
 refine qH (fun m e w' => ∃ (i1 : Int) (i2 : Int) (i3 : Int), qbU t m i1 i2 i3 = some o1 ∧ e = [(1, .pointer (some ⟨bb1, 0, none⟩)), (2, .pointer (some ⟨bb2, 0, none⟩)), (4, .pointer (some ⟨bb3, 0, none⟩)), (5, .int .i64 i3)] ∧ SH w w' [Ch.box bb3 [.int .i64 i1, .int .i64 i2] 291, Ch.box bb2 [.int .i64 0, .int .i64 0] 291, Ch.box bb1 [.slice p1 t.Slews.length k1, .slice p2 t.Loads.length k2, .slice p3 t.Values.length k3] 267]) n ⟨_, _, _, hF, rfl, h⟩ ?_
 rintro m1 e1 w8 ⟨i1, i2, i3, hF, rfl, h⟩
 rcases m1 with _ | m1
 ·rw [qbU] at hF
  cases hF
 rw [qbU] at hF
 refine zSSR (zp2 rfl (zl 2 2 h rfl (zp2 rfl (qb ?_))))
 refine qr rfl hF ?_ ?_ <;> intro hF
 ·refine zKSB (qbq ?_)
  refine qge [9] (fun w' => SH w w' [Ch.box bb3 [.int .i64 i1, .int .i64 i2] 291, Ch.box bb1 [.slice p1 t.Slews.length k1, .slice p2 t.Loads.length k2, .slice p3 t.Values.length k3] 267]) rfl 10 rfl #[ff, ff, ff, ff, ff, ff, ff, ff, ff, ff] (by kernel_rfl) (fun w9 hb => ?_)
  replace h := h.ext hb
  clear hb
  refine ql 0 rfl #[tt, ff, ff, ff, ff, ff, ff, ff, ff, ff] (by kernel_rfl) (by kernel_rfl) (fun w' hw => v_p qc rfl w') (h.pick [0, 2] rfl) rfl ?_
  refine ql 1 rfl #[tt, tt, ff, ff, ff, ff, ff, ff, ff, ff] (by kernel_rfl) (by kernel_rfl) (fun w' hw => qbI qc (hw.box 0 rfl) (j := 0) rfl rfl rfl) (h.pick [0, 2] rfl) rfl ?_
  refine ql 2 rfl #[tt, tt, tt, ff, ff, ff, ff, ff, ff, ff] (by kernel_rfl) (by kernel_rfl) (fun w' hw => v_p qc rfl w') (h.pick [0, 2] rfl) rfl ?_
  refine ql 3 rfl #[tt, tt, tt, tt, ff, ff, ff, ff, ff, ff] (by kernel_rfl) (by kernel_rfl) (fun w' hw => qbI qc (hw.box 1 rfl) (j := 2) rfl rfl rfl) (h.pick [0, 2] rfl) rfl ?_
  refine ql 4 rfl #[tt, tt, tt, tt, tt, ff, ff, ff, ff, ff] (by kernel_rfl) (by kernel_rfl) (fun w' hw => v_p qc rfl w') (h.pick [0, 2] rfl) rfl ?_
  obtain ⟨y3, hy3, hF⟩ := qd hF
  have he3 := qf hy3
  obtain ⟨b3, o_3, q3, cs4, hp3, hq3, -, hr4, hc5⟩ := s3.at hy3
  obtain rfl := hr4
  refine ql 5 rfl #[tt, tt, tt, tt, tt, tt, ff, ff, ff, ff] (by kernel_rfl) (by kernel_rfl) (fun w' hw => qf6 qc hp3 hq3 ⟨he3.1, he3.2.1⟩ rfl rfl rfl rfl rfl rfl) (h.pick [0, 2] rfl) rfl ?_
  refine ql 6 rfl #[tt, tt, tt, tt, tt, tt, tt, ff, ff, ff] (by kernel_rfl) (by kernel_rfl) (fun w' hw => qbI qc (hc5.below hw.below) (j := 0) rfl rfl rfl) (h.pick [0, 2] rfl) rfl ?_
  refine ql 7 rfl #[tt, tt, tt, tt, tt, tt, tt, tt, ff, ff] (by kernel_rfl) (by kernel_rfl) (fun w' hw => v_p qc rfl w') (h.pick [0, 2] rfl) rfl ?_
  refine ql 8 rfl #[tt, tt, tt, tt, tt, tt, tt, tt, tt, ff] (by kernel_rfl) (by kernel_rfl) (fun w' hw => v_p qc rfl w') (h.pick [0, 2] rfl) rfl ?_
  refine qaI 9 rfl #[tt, tt, tt, tt, tt, tt, tt, tt, tt, tt] (by kernel_rfl) (by kernel_rfl) ?_
  refine zs 0 h rfl ?_
  intro w10 h
  refine qaw (fun hs => absurd (hs 9 (by decide)) (by decide)) ?_
  refine qd4 (by kernel_rfl) ?_
  refine qge [9] (fun w' => SH w w' [Ch.box bb3 [.int .i64 (if y3 < i1 then y3 else i1), .int .i64 i2] 291, Ch.box bb1 [.slice p1 t.Slews.length k1, .slice p2 t.Loads.length k2, .slice p3 t.Values.length k3] 267]) rfl 10 rfl #[ff, ff, ff, ff, ff, ff, ff, ff, ff, ff] (by kernel_rfl) (fun w11 hb => ?_)
  replace h := h.ext hb
  clear hb
  refine ql 0 rfl #[tt, ff, ff, ff, ff, ff, ff, ff, ff, ff] (by kernel_rfl) (by kernel_rfl) (fun w' hw => v_p qc rfl w') (h.pick [0, 2] rfl) rfl ?_
  refine ql 1 rfl #[tt, tt, ff, ff, ff, ff, ff, ff, ff, ff] (by kernel_rfl) (by kernel_rfl) (fun w' hw => qbI qc (hw.box 0 rfl) (j := 1) rfl rfl rfl) (h.pick [0, 2] rfl) rfl ?_
  refine ql 2 rfl #[tt, tt, tt, ff, ff, ff, ff, ff, ff, ff] (by kernel_rfl) (by kernel_rfl) (fun w' hw => v_p qc rfl w') (h.pick [0, 2] rfl) rfl ?_
  refine ql 3 rfl #[tt, tt, tt, tt, ff, ff, ff, ff, ff, ff] (by kernel_rfl) (by kernel_rfl) (fun w' hw => qbI qc (hw.box 1 rfl) (j := 2) rfl rfl rfl) (h.pick [0, 2] rfl) rfl ?_
  refine ql 4 rfl #[tt, tt, tt, tt, tt, ff, ff, ff, ff, ff] (by kernel_rfl) (by kernel_rfl) (fun w' hw => v_p qc rfl w') (h.pick [0, 2] rfl) rfl ?_
  obtain ⟨y4, hy4, hF⟩ := qd hF
  have he4 := qf hy4
  obtain ⟨b4, o_4, q4, cs5, hp4, hq4, -, hr5, hc6⟩ := s3.at hy4
  obtain rfl := hr5
  refine ql 5 rfl #[tt, tt, tt, tt, tt, tt, ff, ff, ff, ff] (by kernel_rfl) (by kernel_rfl) (fun w' hw => qf6 qc hp4 hq4 ⟨he4.1, he4.2.1⟩ rfl rfl rfl rfl rfl rfl) (h.pick [0, 2] rfl) rfl ?_
  refine ql 6 rfl #[tt, tt, tt, tt, tt, tt, tt, ff, ff, ff] (by kernel_rfl) (by kernel_rfl) (fun w' hw => qbI qc (hc6.below hw.below) (j := 0) rfl rfl rfl) (h.pick [0, 2] rfl) rfl ?_
  refine ql 7 rfl #[tt, tt, tt, tt, tt, tt, tt, tt, ff, ff] (by kernel_rfl) (by kernel_rfl) (fun w' hw => v_p qc rfl w') (h.pick [0, 2] rfl) rfl ?_
  refine ql 8 rfl #[tt, tt, tt, tt, tt, tt, tt, tt, tt, ff] (by kernel_rfl) (by kernel_rfl) (fun w' hw => v_p qc rfl w') (h.pick [0, 2] rfl) rfl ?_
  refine qaI 9 rfl #[tt, tt, tt, tt, tt, tt, tt, tt, tt, tt] (by kernel_rfl) (by kernel_rfl) ?_
  refine zs 0 h rfl ?_
  intro w12 h
  refine qaw (fun hs => absurd (hs 9 (by decide)) (by decide)) ?_
  refine qd4 (by kernel_rfl) ?_
  exact qgr (qB (zp3 rfl (qb (qA m1 [(1, _), (2, _), (4, _), (5, _)] (Nat.lt_succ_self m1) ⟨rfl, rfl, rfl, rfl, trivial⟩ ⟨_, _, _, hF, rfl, h⟩))))
 refine qG rfl ?_
 obtain rfl := qh hF; replace hF := hK1
 refine zSR (zl 0 0 h rfl (zs 1 h rfl ?_))
 intro w13 h
 replace h : SH _ _ [Ch.box bb3 [.int .i64 i1, .int .i64 i2] 291, Ch.box bb2 [.int .i64 i1, .int .i64 i2] 291, Ch.box bb1 [.slice p1 t.Slews.length k1, .slice p2 t.Loads.length k2, .slice p3 t.Values.length k3] 267] := h
 refine zp1 rfl (qb ?_)
 obtain rfl := qh hF
 exact qaj qc (ρ := (qiV × Int)) [GoT.v qiV [.int .i64 i1, .int .i64 i2], GoT.v Int [.int .i64 0]] h ⟨⟨_, _, _, rfl, rfl, h.box 1 rfl, rfl⟩, rfl, trivial⟩ (PV.done h (qfk h (qao (S := fun _ => False) (qn2 (⟨i1, i2⟩ : qiV))) (qap (qao (S := fun _ => False) rfl)) (by rfl)))

def qb3 (list : (List qF)) (positive : Bool) : Nat → Int → Option (Flow Bool Int)
 | 0, _ => none
 | n + 1, i1 =>
  bif decide (i1 < 2) then
   (idx list i1).bind fun y1 =>
   (qft n y1).bind fun o => match o with
    | (r2, r3) =>
     bif (r3 != 0) then
      some (.ret false)
     else
      bif positive then
       bif decide (r2.Early < 0) then
        some (.ret false)
       else
        qb3 list positive n (W64 (i1 + 1))
      else
       qb3 list positive n (W64 (i1 + 1))
  else
   some (.nxt i1)

def qdf (n : Nat) (list : (List qF)) (positive : Bool) : Option Bool :=
 bif ((list.length : Int) != 2) then
  some false
 else
  (qb3 list positive n 0).bind fun o => match o with
  | .ret r => some r
  | .nxt _ =>
   some true

theorem qfa {n : Nat} {w : World} {list : (List qF)} {positive : Bool} {cs1 : List Value} (ha1 : GoT.R w (old w) list cs1) {r : Bool} (hF : qdf n list positive = some r) : RetV Tryz.prog 227 [GoT.v (List qF) cs1, .bool positive] w r := by
 obtain ⟨p1, k1, rfl, s1⟩ := ha1
 refine qe Tryz.func227 rfl (m := 33) rfl rfl (fun h => ?_)
 rw [qdf] at hF
 refine zSR (zp1 rfl (zNSSR (zp3 rfl (qb ?_))))
 refine qr rfl hF ?_ ?_ <;> intro hF
 ·exact zSR (zp1 rfl (qb (qy qc h hF ⟨rfl, trivial⟩)))
 refine zKSSR (zp1 rfl (qb ?_))
 obtain ⟨o1, hF, hK1⟩ := qd hF
 refine qw (qP [(0, _), (1, _), (5, _)] ⟨rfl, rfl, rfl, trivial⟩ ?_)
 refine qH (fun m e w' => ∃ (i1 : Int), qb3 list positive m i1 = some o1 ∧ e = [(0, .slice p1 list.length k1), (1, .bool positive), (5, .int .i64 i1)] ∧ SH w w' []) n ⟨_, hF, rfl, h⟩ ?_
 rintro m1 e1 w1 ⟨i1, hF, rfl, h⟩
 rcases m1 with _ | m1
 ·rw [qb3] at hF
  cases hF
 rw [qb3] at hF
 refine zSSR (zp2 rfl (qb ?_))
 refine qr rfl hF ?_ ?_ <;> intro hF
 ·refine zKSBSR (zp2 rfl ?_)
  obtain ⟨y1, hy1, hF⟩ := qd hF
  have he1 := qf hy1
  obtain ⟨b1, o_1, q1, cs2, hp1, hq1, -, hr1, hc3⟩ := s1.at hy1
  obtain ⟨p2, k2, p3, k3, p4, k4, rfl, s2, s3, s4⟩ := qbF hr1
  refine zxe hp1 hq1 he1 rfl (zc 0 (hc3.below h.below) rfl ?_)
  obtain ⟨r1, hr2, hF⟩ := qd hF
  obtain ⟨r2, r3⟩ := r1
  refine qh1 (r2, r3) h call234 (qkI (qh0 y1 (h.oldS s2) (h.oldS s3) (h.oldS s4)) hr2) rfl rfl rfl rfl ?_
  intro w2 S1 us1 hv1 hr3
  obtain ⟨S2, S3, cs3, us2, rfl, hv2, hr4⟩ := hv1.cons hr3
  obtain rfl := qpW (hv2.sh.own 0 rfl)
  obtain ⟨rfl, h⟩ := hv2.lastI hr4
  refine zp3 rfl (qaa qc h rfl rfl rfl ?_)
  intro w3 bb1 h
  refine zs 0 h rfl ?_
  intro w4 h
  refine zp1 rfl (zNSR (zp3 rfl ?_))
  by_cases hc4 : (r3 != 0) = true
  ·replace hF := bifT hc4 hF
   refine qE hc4 (t := 25) rfl (zn5 rfl (zn1 rfl (zp1 rfl (qb (qe1 rfl rfl (zSR ?_))))))
   refine zp1 rfl (qb ?_)
   obtain rfl := qh hF; replace hF := hK1
   exact qy qc h hF ⟨rfl, trivial⟩
  replace hc4 := zb hc4
  replace hF := bifF hc4 hF
  refine qD hc4 (t := 25) rfl (qa rfl (zp1 rfl (qa rfl (zp1 rfl ?_))))
  by_cases hc5 : positive = true
  ·replace hF := bifT hc5 hF
   refine qE hc5 (t := 27) rfl (qa rfl (zp1 rfl (qa rfl (zl 0 0 h rfl (qa rfl (zp1 rfl (qa rfl (zp2 rfl (qb ?_)))))))))
   refine qr rfl hF ?_ ?_ <;> intro hF
   ·refine zSR (zp1 rfl (qb ?_))
    obtain rfl := qh hF; replace hF := hK1
    exact qy qc h hF ⟨rfl, trivial⟩
   refine zKER (zp3 rfl (qb ?_))
   replace h := h.pick [] rfl
   exact qA m1 [(0, _), (1, _), (5, _)] (Nat.lt_succ_self m1) ⟨rfl, rfl, rfl, trivial⟩ ⟨_, hF, rfl, h⟩
  replace hc5 := zb hc5
  replace hF := bifF hc5 hF
  refine qD hc5 (t := 27) rfl (zn3 rfl (qa rfl (zp2 rfl (qb (qdI rfl rfl (zKER ?_))))))
  refine zp3 rfl (qb ?_)
  replace h := h.pick [] rfl
  exact qA m1 [(0, _), (1, _), (5, _)] (Nat.lt_succ_self m1) ⟨rfl, rfl, rfl, trivial⟩ ⟨_, hF, rfl, h⟩
 refine qG rfl ?_
 obtain rfl := qh hF; replace hF := hK1
 exact zSR (zp1 rfl (qb (qy qc h hF ⟨rfl, trivial⟩)))

def qit (n : Nat) (a_0 : qC) (a_1 : qV) : Option Bool :=
 (
  (qaD n a_1.From 0 (W64 ((W64 ((a_0.Pins.length : Int) - 1)) - 1))).bind fun r7 =>
  bif (!r7) then
   some true
  else
   (qaD n a_1.To 0 (W64 ((a_0.Pins.length : Int) - 1))).bind fun r8 =>
   some (!r8)).bind fun b1 =>
 bif b1 then
  some false
 else
  (idx a_0.Pins a_1.From).bind fun y1 =>
  bif (a_1.Kind == 1) then
   bif (!y1.Clock) then
    bif (a_1.To == (W64 ((a_0.Pins.length : Int) - 1))) then
     (qaD n a_1.Sense 1 3).bind fun r1 =>
     bif r1 then
      (qdf n a_1.Delay true).bind fun r2 =>
      bif r2 then
       (qdf n a_1.Slew true).bind fun r3 =>
       some r3
      else
       some false
     else
      some false
    else
     some false
   else
    some false
  else
   (
    bif (a_1.Kind == 2) then
     some (a_1.Kind == 2)
    else
     some (a_1.Kind == 3)).bind fun b3 =>
   bif b3 then
    bif y1.Clock then
     bif (a_1.To == (W64 ((a_0.Pins.length : Int) - 1))) then
      bif (a_1.Sense == 0) then
       (qdf n a_1.Delay true).bind fun r4 =>
       bif r4 then
        (qdf n a_1.Slew true).bind fun r5 =>
        some r5
       else
        some false
      else
       some false
     else
      some false
    else
     some false
   else
    (
     bif (a_1.Kind == 4) then
      some (a_1.Kind == 4)
     else
      some (a_1.Kind == 5)).bind fun b4 =>
    bif b4 then
     bif y1.Clock then
      bif decide (a_1.To < (W64 ((a_0.Pins.length : Int) - 1))) then
       (idx a_0.Pins a_1.To).bind fun y2 =>
       bif (!y2.Clock) then
        bif (a_1.Sense == 0) then
         (qdf n a_1.Delay false).bind fun r6 =>
         bif r6 then
          some ((a_1.Slew.length : Int) == 0)
         else
          some false
        else
         some false
       else
        some false
      else
       some false
     else
      some false
    else
     some false

theorem qmN {n : Nat} {w : World} {a_0 : qC} {a_1 : qV} {cs1 : List Value} (ha1 : GoT.R w (old w) a_0 cs1) {cs2 : List Value} (ha2 : GoT.R w (old w) a_1 cs2) {r : Bool} (hF : qit n a_0 a_1 = some r) : RetV Tryz.prog 216 [GoT.v qC cs1, GoT.v qV cs2] w r := by
 obtain ⟨p1, k1, p2, k2, p3, k3, rfl, s1, s2, s3⟩ := qY ha1
 obtain ⟨p4, k4, p5, k5, rfl, s4, s5⟩ := qaH ha2
 refine qe Tryz.func216 rfl (m := 119) rfl rfl (fun h => ?_)
 rw [qit] at hF
 refine zSR (qN h rfl rfl ?_)
 intro w1 bb1 h
 refine qN h rfl rfl ?_
 intro w2 bb2 h
 refine zp1 rfl (zNSR (zp1 rfl (zl 1 2 h rfl (zp3 rfl (zNSS ?_)))))
 obtain ⟨KF3, hKF3, o3, hF, hK3⟩ := bindE hF
 refine qek (fun e w' => ∃ (b1 : Bool), KF3 b1 = some r ∧ e = [(2, .pointer (some ⟨bb1, 0, none⟩)), (3, .pointer (some ⟨bb2, 0, none⟩)), (5, .int .i64 (W64 ((a_0.Pins.length : Int) - 1))), (23, .bool b1)] ∧ SH w w' [Ch.box bb2 [.int .i64 a_1.Kind, .int .i64 a_1.From, .int .i64 a_1.To, .int .i64 a_1.Sense, .slice p4 a_1.Delay.length k4, .slice p5 a_1.Slew.length k5] 211, Ch.box bb1 [.string a_0.Name, .int .i64 a_0.Kind, .slice p1 a_0.Pins.length k1, .slice p2 a_0.Arcs.length k2, .slice p3 a_0.Truth.length k3, .int .i64 a_0.Leak, .int .i64 a_0.Energy] 183]) ?_ ?_
 ·refine qB (zp1 rfl (zl 0 1 h rfl (zp2 rfl ?_)))
  obtain ⟨r7, hr9, hF⟩ := qd hF
  refine qp r7 h call77 (qal hr9) rfl rfl rfl rfl ?_
  intro w11 h
  refine zp2 rfl ?_
  by_cases hc22 : (!r7) = true
  ·replace hF := bifT hc22 hF
   refine qE hc22 (t := 17) rfl (zn5 rfl (zp1 rfl (qb ?_)))
   obtain rfl := qh hF
   exact qx [(2, _), (3, _), (5, _), (23, _)] ⟨rfl, rfl, rfl, rfl, trivial⟩ ⟨_, hK3, rfl, h⟩
  replace hc22 := zb hc22
  replace hF := bifF hc22 hF
  refine qD hc22 (t := 17) rfl (qa rfl (zp1 rfl (qa rfl (zl 0 2 h rfl (qa rfl (zp1 rfl (qa rfl ?_)))))))
  obtain ⟨r8, hr10, hF⟩ := qd hF
  refine qp r8 h call77 (qal hr10) rfl rfl rfl rfl ?_
  intro w12 h
  refine qa rfl (zp2 rfl (qb ?_))
  obtain rfl := qh hF
  exact qx [(2, _), (3, _), (5, _), (23, _)] ⟨rfl, rfl, rfl, rfl, trivial⟩ ⟨_, hK3, rfl, h⟩
 rintro e3 w13 ⟨b1, hF, rfl, h⟩
 subst hKF3
 refine qr rfl hF ?_ ?_ <;> intro hF
 ·exact zSR (zp1 rfl (qb (qy qc h hF ⟨rfl, trivial⟩)))
 refine zKSR (zp1 rfl (zl 1 2 h rfl (zp1 rfl (zl 0 1 h rfl ?_))))
 obtain ⟨y1, hy1, hF⟩ := qd hF
 have he1 := qf hy1
 obtain ⟨b2, o_1, q1, cs3, hp1, hq1, -, hr1, hc2⟩ := s1.at hy1
 obtain rfl := qa5 hr1
 refine zxe hp1 hq1 he1 rfl (zp1 rfl (zc 3 (hc2.below h.below) rfl (zp1 rfl (zNSSR (zp1 rfl (zl 0 0 h rfl (qb (qw ?_))))))))
 refine zSR (zp2 rfl (qb ?_))
 refine qr rfl hF ?_ ?_ <;> intro hF
 ·refine zSR (zp3 rfl ?_)
  by_cases hc4 : (!y1.Clock) = true
  ·replace hF := bifT hc4 hF
   refine qE hc4 (t := 37) rfl (qa rfl (zp1 rfl (qa rfl (zl 0 2 h rfl (qa rfl (zp1 rfl (qa rfl (zp3 rfl ?_))))))))
   by_cases hc5 : (a_1.To == (W64 ((a_0.Pins.length : Int) - 1))) = true
   ·replace hF := bifT hc5 hF
    refine qE hc5 (t := 43) rfl (qa rfl (zp1 rfl (qa rfl (zl 0 3 h rfl (qa rfl ?_)))))
    obtain ⟨r1, hr2, hF⟩ := qd hF
    refine qp r1 h call77 (qal hr2) rfl rfl rfl rfl ?_
    intro w3 h
    refine zp2 rfl ?_
    by_cases hc6 : r1 = true
    ·replace hF := bifT hc6 hF
     refine qE hc6 (t := 48) rfl (qa rfl (zp1 rfl (qa rfl (zl 0 4 h rfl (qa rfl ?_)))))
     obtain ⟨r2, hr3, hF⟩ := qd hF
     refine qp r2 h call227 (qfa ⟨_, _, rfl, (h.oldS s4)⟩ hr3) rfl rfl rfl rfl ?_
     intro w4 h
     refine zp2 rfl ?_
     by_cases hc7 : r2 = true
     ·replace hF := bifT hc7 hF
      refine qE hc7 (t := 53) rfl (qa rfl (zp1 rfl (qa rfl (zl 0 5 h rfl (qa rfl ?_)))))
      obtain ⟨r3, hr4, hF⟩ := qd hF
      refine qp r3 h call227 (qfa ⟨_, _, rfl, (h.oldS s5)⟩ hr4) rfl rfl rfl rfl ?_
      intro w5 h
      exact zp2 rfl (qb (qy qc h hF ⟨rfl, trivial⟩))
     replace hc7 := zb hc7
     replace hF := bifF hc7 hF
     exact qD hc7 (t := 53) rfl (zn3 rfl (zp2 rfl (qb (qy qc h hF ⟨rfl, trivial⟩))))
    replace hc6 := zb hc6
    replace hF := bifF hc6 hF
    refine qD hc6 (t := 48) rfl (zn3 rfl (zp2 rfl (zn3 rfl (zp2 rfl (qb ?_)))))
    exact qy qc h hF ⟨rfl, trivial⟩
   replace hc5 := zb hc5
   replace hF := bifF hc5 hF
   refine qD hc5 (t := 43) rfl (zn3 rfl (zp2 rfl (zn3 rfl (zp2 rfl (zn1 rfl ?_)))))
   exact zn2 rfl (zp2 rfl (qb (qy qc h hF ⟨rfl, trivial⟩)))
  replace hc4 := zb hc4
  replace hF := bifF hc4 hF
  refine qD hc4 (t := 37) rfl (zn4 rfl (zp2 rfl (zn3 rfl (zp2 rfl ?_))))
  exact zn3 rfl (zp2 rfl (zn3 rfl (zp2 rfl (qb (qy qc h hF ⟨rfl, trivial⟩)))))
 refine zSSR (zp2 rfl (qb ?_))
 obtain ⟨KF2, hKF2, o2, hF, hK2⟩ := bindE hF
 refine qek (fun e w' => ∃ (b3 : Bool), KF2 b3 = some r ∧ e = [(2, .pointer (some ⟨bb1, 0, none⟩)), (3, .pointer (some ⟨bb2, 0, none⟩)), (5, .int .i64 (W64 ((a_0.Pins.length : Int) - 1))), (6, .bool y1.Clock), (32, .int .i64 a_1.Kind), (58, .bool b3)] ∧ SH w w' [Ch.box bb2 [.int .i64 a_1.Kind, .int .i64 a_1.From, .int .i64 a_1.To, .int .i64 a_1.Sense, .slice p4 a_1.Delay.length k4, .slice p5 a_1.Slew.length k5] 211, Ch.box bb1 [.string a_0.Name, .int .i64 a_0.Kind, .slice p1 a_0.Pins.length k1, .slice p2 a_0.Arcs.length k2, .slice p3 a_0.Truth.length k3, .int .i64 a_0.Leak, .int .i64 a_0.Energy] 183]) ?_ ?_
 ·refine qr rfl hF ?_ ?_ <;> intro hF
  ·refine qdX ?_
   obtain rfl := qh hF
   exact qx [(2, _), (3, _), (5, _), (6, _), (32, _), (58, _)] ⟨rfl, rfl, rfl, rfl, rfl, rfl, trivial⟩ ⟨_, hK2, rfl, h⟩
  refine qB (zp2 rfl (qb ?_))
  obtain rfl := qh hF
  exact qx [(2, _), (3, _), (5, _), (6, _), (32, _), (58, _)] ⟨rfl, rfl, rfl, rfl, rfl, rfl, trivial⟩ ⟨_, hK2, rfl, h⟩
 rintro e2 w10 ⟨b3, hF, rfl, h⟩
 subst hKF2
 refine qr rfl hF ?_ ?_ <;> intro hF
 ·refine zSR (zp2 rfl ?_)
  by_cases hc9 : y1.Clock = true
  ·replace hF := bifT hc9 hF
   refine qE hc9 (t := 62) rfl (qa rfl (zp1 rfl (qa rfl (zl 0 2 h rfl (qa rfl (zp1 rfl (qa rfl (zp3 rfl ?_))))))))
   by_cases hc10 : (a_1.To == (W64 ((a_0.Pins.length : Int) - 1))) = true
   ·replace hF := bifT hc10 hF
    refine qE hc10 (t := 68) rfl (qa rfl (zp1 rfl (qa rfl (zl 0 3 h rfl (qa rfl (zp3 rfl ?_))))))
    by_cases hc11 : (a_1.Sense == 0) = true
    ·replace hF := bifT hc11 hF
     refine qE hc11 (t := 73) rfl (qa rfl (zp1 rfl (qa rfl (zl 0 4 h rfl (qa rfl ?_)))))
     obtain ⟨r4, hr5, hF⟩ := qd hF
     refine qp r4 h call227 (qfa ⟨_, _, rfl, (h.oldS s4)⟩ hr5) rfl rfl rfl rfl ?_
     intro w6 h
     refine zp2 rfl ?_
     by_cases hc12 : r4 = true
     ·replace hF := bifT hc12 hF
      refine qE hc12 (t := 78) rfl (qa rfl (zp1 rfl (qa rfl (zl 0 5 h rfl (qa rfl ?_)))))
      obtain ⟨r5, hr6, hF⟩ := qd hF
      refine qp r5 h call227 (qfa ⟨_, _, rfl, (h.oldS s5)⟩ hr6) rfl rfl rfl rfl ?_
      intro w7 h
      exact zp2 rfl (qb (qy qc h hF ⟨rfl, trivial⟩))
     replace hc12 := zb hc12
     replace hF := bifF hc12 hF
     exact qD hc12 (t := 78) rfl (zn3 rfl (zp2 rfl (qb (qy qc h hF ⟨rfl, trivial⟩))))
    replace hc11 := zb hc11
    replace hF := bifF hc11 hF
    refine qD hc11 (t := 73) rfl (zn3 rfl (zp2 rfl (zn3 rfl (zp2 rfl (qb ?_)))))
    exact qy qc h hF ⟨rfl, trivial⟩
   replace hc10 := zb hc10
   replace hF := bifF hc10 hF
   refine qD hc10 (t := 68) rfl (zn3 rfl (zp2 rfl (zn3 rfl (zp2 rfl (zn1 rfl ?_)))))
   exact zn2 rfl (zp2 rfl (qb (qy qc h hF ⟨rfl, trivial⟩)))
  replace hc9 := zb hc9
  replace hF := bifF hc9 hF
  refine qD hc9 (t := 62) rfl (zn4 rfl (zp2 rfl (zn3 rfl (zp2 rfl ?_))))
  exact zn3 rfl (zp2 rfl (zn3 rfl (zp2 rfl (qb (qy qc h hF ⟨rfl, trivial⟩)))))
 refine zSSR (zp2 rfl (qb ?_))
 obtain ⟨KF1, hKF1, o1, hF, hK1⟩ := bindE hF
 refine qek (fun e w' => ∃ (b4 : Bool), KF1 b4 = some r ∧ e = [(2, .pointer (some ⟨bb1, 0, none⟩)), (3, .pointer (some ⟨bb2, 0, none⟩)), (5, .int .i64 (W64 ((a_0.Pins.length : Int) - 1))), (6, .bool y1.Clock), (83, .bool b4)] ∧ SH w w' [Ch.box bb2 [.int .i64 a_1.Kind, .int .i64 a_1.From, .int .i64 a_1.To, .int .i64 a_1.Sense, .slice p4 a_1.Delay.length k4, .slice p5 a_1.Slew.length k5] 211, Ch.box bb1 [.string a_0.Name, .int .i64 a_0.Kind, .slice p1 a_0.Pins.length k1, .slice p2 a_0.Arcs.length k2, .slice p3 a_0.Truth.length k3, .int .i64 a_0.Leak, .int .i64 a_0.Energy] 183]) ?_ ?_
 ·refine qr rfl hF ?_ ?_ <;> intro hF
  ·refine qdX ?_
   obtain rfl := qh hF
   exact qx [(2, _), (3, _), (5, _), (6, _), (83, _)] ⟨rfl, rfl, rfl, rfl, rfl, trivial⟩ ⟨_, hK1, rfl, h⟩
  refine qB (zp2 rfl (qb ?_))
  obtain rfl := qh hF
  exact qx [(2, _), (3, _), (5, _), (6, _), (83, _)] ⟨rfl, rfl, rfl, rfl, rfl, trivial⟩ ⟨_, hK1, rfl, h⟩
 rintro e1 w9 ⟨b4, hF, rfl, h⟩
 subst hKF1
 refine qr rfl hF ?_ ?_ <;> intro hF
 ·refine zSR (zp2 rfl ?_)
  by_cases hc14 : y1.Clock = true
  ·replace hF := bifT hc14 hF
   refine qE hc14 (t := 87) rfl (qa rfl (zp1 rfl (qa rfl (zl 0 2 h rfl (qa rfl (zp1 rfl (qa rfl (zp3 rfl ?_))))))))
   by_cases hc15 : (decide (a_1.To < (W64 ((a_0.Pins.length : Int) - 1)))) = true
   ·replace hF := bifT hc15 hF
    refine qE hc15 (t := 93) rfl (qa rfl (zp1 rfl (qa rfl (zl 1 2 h rfl (qa rfl (zp1 rfl (qa rfl (zl 0 2 h rfl (qa rfl ?_)))))))))
    obtain ⟨y2, hy2, hF⟩ := qd hF
    have he2 := qf hy2
    obtain ⟨b5, o_2, q2, cs4, hp2, hq2, -, hr7, hc16⟩ := s1.at hy2
    obtain rfl := qa5 hr7
    refine zxe hp2 hq2 he2 rfl (qa rfl (zp1 rfl (qa rfl (zc 3 (hc16.below h.below) rfl (qa rfl (zp3 rfl ?_))))))
    by_cases hc17 : (!y2.Clock) = true
    ·replace hF := bifT hc17 hF
     refine qE hc17 (t := 103) rfl (qa rfl (zp1 rfl (qa rfl (zl 0 3 h rfl (qa rfl (zp3 rfl ?_))))))
     by_cases hc18 : (a_1.Sense == 0) = true
     ·replace hF := bifT hc18 hF
      refine qE hc18 (t := 108) rfl (qa rfl (zp1 rfl (qa rfl (zl 0 4 h rfl (qa rfl ?_)))))
      obtain ⟨r6, hr8, hF⟩ := qd hF
      refine qp r6 h call227 (qfa ⟨_, _, rfl, (h.oldS s4)⟩ hr8) rfl rfl rfl rfl ?_
      intro w8 h
      refine zp2 rfl ?_
      by_cases hc19 : r6 = true
      ·replace hF := bifT hc19 hF
       refine qE hc19 (t := 113) rfl (qa rfl (zp1 rfl (qa rfl (zl 0 5 h rfl (qa rfl (zp1 rfl (qa rfl (zp3 rfl (qb ?_)))))))))
       exact qy qc h hF ⟨rfl, trivial⟩
      replace hc19 := zb hc19
      replace hF := bifF hc19 hF
      exact qD hc19 (t := 113) rfl (zn4 rfl (zp2 rfl (qb (qy qc h hF ⟨rfl, trivial⟩))))
     replace hc18 := zb hc18
     replace hF := bifF hc18 hF
     refine qD hc18 (t := 108) rfl (zn3 rfl (zp2 rfl (zn4 rfl (zp2 rfl ?_))))
     exact qb (qy qc h hF ⟨rfl, trivial⟩)
    replace hc17 := zb hc17
    replace hF := bifF hc17 hF
    refine qD hc17 (t := 103) rfl (zn3 rfl (zp2 rfl (zn3 rfl (zp2 rfl (zn1 rfl ?_)))))
    exact zn3 rfl (zp2 rfl (qb (qy qc h hF ⟨rfl, trivial⟩)))
   replace hc15 := zb hc15
   replace hF := bifF hc15 hF
   refine qD hc15 (t := 93) rfl (zn5 rfl (zn3 rfl (zp2 rfl (zn1 rfl ?_))))
   refine zn2 rfl (zp2 rfl (zn3 rfl (zp2 rfl (zn3 rfl ?_))))
   exact zn1 rfl (zp2 rfl (qb (qy qc h hF ⟨rfl, trivial⟩)))
  replace hc14 := zb hc14
  replace hF := bifF hc14 hF
  refine qD hc14 (t := 87) rfl (zn4 rfl (zp2 rfl (zn5 rfl ?_)))
  refine zn3 rfl (zp2 rfl (zn3 rfl (zp2 rfl (zn2 rfl ?_))))
  exact zn1 rfl (zp2 rfl (zn4 rfl (zp2 rfl (qb (qy qc h hF ⟨rfl, trivial⟩)))))
 exact zKE (zSR (zp1 rfl (qb (qy qc h hF ⟨rfl, trivial⟩))))

def qcm (c : qC) : Nat → (List Int) → Int → Option ((List Int) × Int)
 | 0, _, _ => none
 | n + 1, x2, i1 =>
  bif decide (i1 < (c.Arcs.length : Int)) then
   (idx c.Arcs i1).bind fun y1 =>
   (idx x2 y1.Kind).bind fun y2 =>
   (idx x2 y1.Kind).bind fun _ =>
   qcm c n (setS x2 y1.Kind (W64 (y2 + 1))) (W64 (i1 + 1))
  else
   some (x2, i1)

def qgO (n : Nat) (c : qC) : Option (List Int) :=
 (mkS 6 (0 : Int)).bind fun x1 =>
 (qcm c n x1 0).bind fun o => match o with
 | (x2, _) =>
  some x2

theorem qlK {n : Nat} {w : World} {c : qC} {cs1 : List Value} (ha1 : GoT.R w (old w) c cs1) {r : (List Int)} (hF : qgO n c = some r) : RetV Tryz.prog 217 [GoT.v qC cs1] w r := by
 obtain ⟨p1, k1, p2, k2, p3, k3, rfl, s1, s2, s3⟩ := qY ha1
 refine qe Tryz.func217 rfl (m := 25) rfl rfl (fun h => ?_)
 rw [qgO] at hF
 refine zSR (qN h rfl rfl ?_)
 intro w1 bb1 h
 refine zp1 rfl (zNSR ?_)
 obtain ⟨x1, hx1, hF⟩ := qd hF
 obtain ⟨g1, g2, hx1⟩ := qd2 hx1
 refine qe8 qc Int h rfl rfl rfl rfl rfl rfl rfl rfl rfl g1 g2 hx1 rfl ?_
 intro w2 S1 p4 h
 refine zp1 rfl (zNSSR (zp1 rfl (qb ?_)))
 obtain ⟨o1, hF, hK1⟩ := qd hF
 refine qw (qP [(1, _), (3, _), (4, _)] ⟨rfl, rfl, rfl, trivial⟩ ?_)
 refine qH (fun m e w' => ∃ (x2 : (List Int)) (i1 : Int), qcm c m x2 i1 = some o1 ∧ e = [(1, .pointer (some ⟨bb1, 0, none⟩)), (3, .slice p4 x1.length x1.length), (4, .int .i64 i1)] ∧ SH w w' [Ch.own S1 (x2 : List Int) [.slice p4 x1.length x1.length], Ch.box bb1 [.string c.Name, .int .i64 c.Kind, .slice p1 c.Pins.length k1, .slice p2 c.Arcs.length k2, .slice p3 c.Truth.length k3, .int .i64 c.Leak, .int .i64 c.Energy] 183]) n ⟨_, _, hF, rfl, h⟩ ?_
 rintro m1 e1 w3 ⟨x2, i1, hF, rfl, h⟩
 rcases m1 with _ | m1
 ·rw [qcm] at hF
  cases hF
 rw [qcm] at hF
 refine zSSR (zp2 rfl (zl 1 3 h rfl (zp2 rfl (qb ?_))))
 refine qr rfl hF ?_ ?_ <;> intro hF
 ·refine zKSBR (zp2 rfl (zl 1 3 h rfl (zp1 rfl ?_)))
  obtain ⟨y1, hy1, hF⟩ := qd hF
  have he1 := qf hy1
  obtain ⟨b1, o_1, q1, cs2, hp1, hq1, -, hr1, hc2⟩ := s2.at hy1
  obtain ⟨p5, k4, p6, k5, rfl, s4, s5⟩ := qaH hr1
  refine zxe hp1 hq1 he1 rfl (zp1 rfl (zc 0 (hc2.below h.below) rfl ?_))
  obtain ⟨y2, hy2, hF⟩ := qd hF
  have he2 := qf hy2
  obtain ⟨b2, o_2, q2, cs3, hp2, hq2, -, hr2, hc3⟩ := (h.sl 0 rfl).1.at hy2
  obtain rfl := hr2
  refine zx hp2 hq2 ⟨he2.1, qae he2.2.1 (h.sl 0 rfl).2⟩ rfl (zc 0 hc3 rfl (zp1 rfl ?_))
  obtain ⟨y3, hy3, hF⟩ := qd hF
  have he3 := qf hy3
  obtain ⟨b3, o_3, q3, cs4, hp3, hq3, -, hr3, hc4⟩ := (h.sl 0 rfl).1.at hy3
  obtain rfl := hr3
  refine zx hp3 hq3 ⟨he3.1, qae he3.2.1 (h.sl 0 rfl).2⟩ rfl (qdj qc 0 0 (W64 (y2 + 1)) h rfl hy3 hp3 hq3 rfl hc4 rfl rfl rfl rfl rfl rfl rfl ?_)
  intro w4 h
  exact zNER (zp3 rfl (qb (qA m1 [(1, _), (3, _), (4, _)] (Nat.lt_succ_self m1) ⟨rfl, rfl, rfl, trivial⟩ ⟨_, _, hF, rfl, h⟩)))
 refine qG rfl ?_
 obtain rfl := qh hF; replace hF := hK1
 refine zSR (zp2 rfl (qb ?_))
 obtain rfl := qh hF
 exact qaj qc (ρ := (List Int)) [GoT.v (List Int) [.slice p4 x1.length x1.length]] h ⟨rfl, trivial⟩ (PV.done h (qap (qad 0 h rfl)))

end Go.Fw


namespace Go.Fw
open Go Go.Proofs
open Go.RowKit (Below)
set_option maxRecDepth 100000
set_option maxHeartbeats 1600000
def qcG (a_0 : qC) (i1 : Int) (y1 : qV) : Nat → Int → Option (Flow Bool Int)
 | 0, _ => none
 | n + 1, i2 =>
  bif decide (i2 < i1) then
   (idx a_0.Arcs i2).bind fun y2 =>
   bif (y2.Kind == y1.Kind) then
    (idx a_0.Arcs i2).bind fun y3 =>
    bif (y3.From == y1.From) then
     (idx a_0.Arcs i2).bind fun y4 =>
     bif (y4.To == y1.To) then
      some (.ret false)
     else
      qcG a_0 i1 y1 n (W64 (i2 + 1))
    else
     qcG a_0 i1 y1 n (W64 (i2 + 1))
   else
    qcG a_0 i1 y1 n (W64 (i2 + 1))
  else
   some (.nxt i2)

def qdV (a_0 : qC) : Nat → Int → Option (Flow Bool Int)
 | 0, _ => none
 | n + 1, i3 =>
  bif decide (i3 < (a_0.Truth.length : Int)) then
   (idx a_0.Truth i3).bind fun y5 =>
   (qaD n y5 0 1).bind fun r6 =>
   bif (!r6) then
    some (.ret false)
   else
    qdV a_0 n (W64 (i3 + 1))
  else
   some (.nxt i3)

def qdU (a_0 : qC) : Nat → Int → Option (Flow Bool Int)
 | 0, _ => none
 | n + 1, i1 =>
  bif decide (i1 < (a_0.Arcs.length : Int)) then
   (idx a_0.Arcs i1).bind fun y1 =>
   (qit n a_0 y1).bind fun r4 =>
   bif (!r4) then
    some (.ret false)
   else
    (qcG a_0 i1 y1 n 0).bind fun o => match o with
    | .ret r => some (.ret r)
    | .nxt _ =>
     qdU a_0 n (W64 (i1 + 1))
  else
   some (.nxt i1)

def qim (n : Nat) (a_0 : qC) : Option Bool :=
 (qhx n a_0).bind fun o => match o with
  | (r2, r3) =>
   (
    bif (!r3) then
     some true
    else
     (qfL n a_0.Name).bind fun r7 =>
     bif (!r7) then
      some true
     else
      bif decide ((a_0.Arcs.length : Int) > 8) then
       some true
      else
       (qaD n a_0.Leak 0 100000).bind fun r8 =>
       bif (!r8) then
        some true
       else
        (qaD n a_0.Energy 0 100000).bind fun r9 =>
        some (!r9)).bind fun b1 =>
   bif b1 then
    some false
   else
    (qdU a_0 n 0).bind fun o => match o with
    | .ret r => some r
    | .nxt _ =>
     (qgO n a_0).bind fun r5 =>
     bif (a_0.Kind == 1) then
      (qdV a_0 n 0).bind fun o => match o with
      | .ret r => some r
      | .nxt _ =>
       bif (r2 == 0) then
        (shlS 1 (IntKind.wrap .u64 (W64 ((a_0.Pins.length : Int) - 1)))).bind fun y6 =>
        some ((a_0.Truth.length : Int) == y6)
       else
        some false
     else
      bif (a_0.Kind == 2) then
       bif (r2 == 1) then
        (idx r5 1).bind fun y7 =>
        bif (y7 == 0) then
         (idx r5 2).bind fun y8 =>
         (idx r5 3).bind fun y9 =>
         bif (!((decide (y8 > 0)) == (decide (y9 > 0)))) then
          some ((a_0.Truth.length : Int) == 0)
         else
          some false
        else
         some false
       else
        some false
      else
       bif (a_0.Kind == 3) then
        bif (r2 == 1) then
         (idx r5 1).bind fun y10 =>
         bif decide (y10 > 0) then
          (idx r5 2).bind fun y11 =>
          bif decide (y11 > 0) then
           (idx r5 3).bind fun y12 =>
           bif (y12 == 0) then
            some ((a_0.Truth.length : Int) == 0)
           else
            some false
          else
           some false
         else
          some false
        else
         some false
       else
        some false

theorem qm6 {n : Nat} {w : World} {a_0 : qC} {cs1 : List Value} (ha1 : GoT.R w (old w) a_0 cs1) {r : Bool} (hF : qim n a_0 = some r) : RetV Tryz.prog 202 [GoT.v qC cs1] w r := by
 obtain ⟨p1, k1, p2, k2, p3, k3, rfl, s1, s2, s3⟩ := qY ha1
 refine qe Tryz.func202 rfl (m := 182) rfl rfl (fun h => ?_)
 rw [qim] at hF
 refine zSR (qN h rfl rfl ?_)
 intro w1 bb1 h
 refine zp1 rfl (zNSR (zl 0 0 h rfl ?_))
 obtain ⟨r1, hr1, hF⟩ := qd hF
 obtain ⟨r2, r3⟩ := r1
 refine qh1 (r2, r3) h call215 (qmb (h.old ha1) hr1) rfl rfl rfl rfl ?_
 intro w2 S1 us1 hv1 hr2
 obtain ⟨S2, us2, rfl, hv2, hr3⟩ := hv1.consI hr2
 obtain ⟨rfl, h⟩ := hv2.lastB hr3
 refine zp5 rfl (zNSS ?_)
 obtain ⟨KF1, hKF1, o4, hF, hK4⟩ := bindE hF
 refine qek (fun e w' => ∃ (b1 : Bool), KF1 b1 = some r ∧ e = [(1, .pointer (some ⟨bb1, 0, none⟩)), (3, .int .i64 r2), (40, .bool b1)] ∧ SH w w' [Ch.box bb1 [.string a_0.Name, .int .i64 a_0.Kind, .slice p1 a_0.Pins.length k1, .slice p2 a_0.Arcs.length k2, .slice p3 a_0.Truth.length k3, .int .i64 a_0.Leak, .int .i64 a_0.Energy] 183]) ?_ ?_
 ·refine qB (zp3 rfl ?_)
  by_cases hc32 : (!r3) = true
  ·replace hF := bifT hc32 hF
   refine qE hc32 (t := 17) rfl (zn4 rfl (zp2 rfl (zn4 rfl (zp1 rfl ?_))))
   refine zp1 rfl (zn4 rfl (zp2 rfl (zn4 rfl (zp1 rfl ?_))))
   refine qb ?_
   obtain rfl := qh hF
   exact qx [(1, _), (3, _), (40, _)] ⟨rfl, rfl, rfl, trivial⟩ ⟨_, hK4, rfl, h⟩
  replace hc32 := zb hc32
  replace hF := bifF hc32 hF
  refine qD hc32 (t := 17) rfl (qa rfl (zp1 rfl (qa rfl (zl 0 0 h rfl (qa rfl ?_)))))
  obtain ⟨r7, hr19, hF⟩ := qd hF
  refine qp r7 h call203 (qix hr19) rfl rfl rfl rfl ?_
  intro w18 h
  refine qa rfl (zp3 rfl ?_)
  by_cases hc33 : (!r7) = true
  ·replace hF := bifT hc33 hF
   refine qE hc33 (t := 23) rfl (zn4 rfl (zp2 rfl (zn4 rfl (zp1 rfl ?_))))
   refine zp1 rfl (zn4 rfl (zp1 rfl (qb ?_)))
   obtain rfl := qh hF
   exact qx [(1, _), (3, _), (40, _)] ⟨rfl, rfl, rfl, trivial⟩ ⟨_, hK4, rfl, h⟩
  replace hc33 := zb hc33
  replace hF := bifF hc33 hF
  refine qD hc33 (t := 23) rfl (qa rfl (zp1 rfl (qa rfl (zl 0 3 h rfl (qa rfl (zp1 rfl (qa rfl (zp3 rfl ?_))))))))
  by_cases hc34 : (decide ((a_0.Arcs.length : Int) > 8)) = true
  ·replace hF := bifT hc34 hF
   refine qE hc34 (t := 29) rfl (zn4 rfl (zp2 rfl (zn4 rfl (zp1 rfl ?_))))
   refine qb ?_
   obtain rfl := qh hF
   exact qx [(1, _), (3, _), (40, _)] ⟨rfl, rfl, rfl, trivial⟩ ⟨_, hK4, rfl, h⟩
  replace hc34 := zb hc34
  replace hF := bifF hc34 hF
  refine qD hc34 (t := 29) rfl (qa rfl (zp1 rfl (qa rfl (zl 0 5 h rfl (qa rfl ?_)))))
  obtain ⟨r8, hr20, hF⟩ := qd hF
  refine qp r8 h call77 (qal hr20) rfl rfl rfl rfl ?_
  intro w19 h
  refine qa rfl (zp3 rfl ?_)
  by_cases hc35 : (!r8) = true
  ·replace hF := bifT hc35 hF
   refine qE hc35 (t := 35) rfl (zn4 rfl (zp1 rfl (qb ?_)))
   obtain rfl := qh hF
   exact qx [(1, _), (3, _), (40, _)] ⟨rfl, rfl, rfl, trivial⟩ ⟨_, hK4, rfl, h⟩
  replace hc35 := zb hc35
  replace hF := bifF hc35 hF
  refine qD hc35 (t := 35) rfl (qa rfl (zp1 rfl (qa rfl (zl 0 6 h rfl (qa rfl ?_)))))
  obtain ⟨r9, hr21, hF⟩ := qd hF
  refine qp r9 h call77 (qal hr21) rfl rfl rfl rfl ?_
  intro w20 h
  refine qa rfl (zp2 rfl (qb ?_))
  obtain rfl := qh hF
  exact qx [(1, _), (3, _), (40, _)] ⟨rfl, rfl, rfl, trivial⟩ ⟨_, hK4, rfl, h⟩
 rintro e4 w21 ⟨b1, hF, rfl, h⟩
 subst hKF1
 refine qr rfl hF ?_ ?_ <;> intro hF
 ·exact zSR (zp1 rfl (qb (qy qc h hF ⟨rfl, trivial⟩)))
 refine zKSSR (zp1 rfl (qb ?_))
 obtain ⟨o1, hF, hK1⟩ := qd hF
 refine qw (qP [(1, _), (3, _), (5, _)] ⟨rfl, rfl, rfl, trivial⟩ ?_)
 refine qH (fun m e w' => ∃ (i1 : Int), qdU a_0 m i1 = some o1 ∧ e = [(1, .pointer (some ⟨bb1, 0, none⟩)), (3, .int .i64 r2), (5, .int .i64 i1)] ∧ SH w w' [Ch.box bb1 [.string a_0.Name, .int .i64 a_0.Kind, .slice p1 a_0.Pins.length k1, .slice p2 a_0.Arcs.length k2, .slice p3 a_0.Truth.length k3, .int .i64 a_0.Leak, .int .i64 a_0.Energy] 183]) n ⟨_, hF, rfl, h⟩ ?_
 rintro m1 e1 w3 ⟨i1, hF, rfl, h⟩
 rcases m1 with _ | m1
 ·rw [qdU] at hF
  cases hF
 rw [qdU] at hF
 refine zSSR (zp2 rfl (zl 0 3 h rfl (zp2 rfl (qb ?_))))
 refine qr rfl hF ?_ ?_ <;> intro hF
 ·refine zKSBSR (zp1 rfl (zl 0 3 h rfl (zp1 rfl ?_)))
  obtain ⟨y1, hy1, hF⟩ := qd hF
  have he1 := qf hy1
  obtain ⟨b2, o_1, q1, cs2, hp1, hq1, -, hr5, hc3⟩ := s2.at hy1
  obtain ⟨p4, k4, p5, k5, rfl, s4, s5⟩ := qaH hr5
  refine zxe hp1 hq1 he1 rfl (zc 0 (hc3.below h.below) rfl (qaa qc h rfl rfl rfl ?_))
  intro w4 bb2 h
  refine zs 0 h rfl ?_
  intro w5 h
  refine zNSSR (zl 1 0 h rfl (zl 0 0 h rfl ?_))
  obtain ⟨r4, hr6, hF⟩ := qd hF
  refine qp r4 h call216 (qmN (h.old ha1) (qgl y1 (h.oldS s4) (h.oldS s5)) hr6) rfl rfl rfl rfl ?_
  intro w6 h
  refine zp1 rfl (qb ?_)
  refine qr rfl hF ?_ ?_ <;> intro hF
  ·refine zSR (zp1 rfl (qb ?_))
   obtain rfl := qh hF; replace hF := hK1
   exact qy qc h hF ⟨rfl, trivial⟩
  refine zKSR (zp1 rfl (qb ?_))
  obtain ⟨o2, hF, hK2⟩ := qd hF
  refine qw (qP [(1, _), (3, _), (5, _), (6, _), (7, _)] ⟨rfl, rfl, rfl, rfl, rfl, trivial⟩ ?_)
  refine qH (fun m e w' => ∃ (i2 : Int), qcG a_0 i1 y1 m i2 = some o2 ∧ e = [(1, .pointer (some ⟨bb1, 0, none⟩)), (3, .int .i64 r2), (5, .int .i64 i1), (6, .pointer (some ⟨bb2, 0, none⟩)), (7, .int .i64 i2)] ∧ SH w w' [Ch.box bb2 [.int .i64 y1.Kind, .int .i64 y1.From, .int .i64 y1.To, .int .i64 y1.Sense, .slice p4 y1.Delay.length k4, .slice p5 y1.Slew.length k5] 211, Ch.box bb1 [.string a_0.Name, .int .i64 a_0.Kind, .slice p1 a_0.Pins.length k1, .slice p2 a_0.Arcs.length k2, .slice p3 a_0.Truth.length k3, .int .i64 a_0.Leak, .int .i64 a_0.Energy] 183]) m1 ⟨_, hF, rfl, h⟩ ?_
  rintro m2 e2 w7 ⟨i2, hF, rfl, h⟩
  rcases m2 with _ | m2
  ·rw [qcG] at hF
   cases hF
  rw [qcG] at hF
  refine zSSR (zp3 rfl (qb ?_))
  refine qr rfl hF ?_ ?_ <;> intro hF
  ·refine zKSB (qbq ?_)
   refine qcN rfl (by kernel_rfl) ?_
   refine zd1 rfl ?_
   refine zdl 1 3 h rfl ?_
   refine zd1 rfl ?_
   obtain ⟨y2, hy2, hF⟩ := qd hF
   have he2 := qf hy2
   obtain ⟨b3, o_2, q2, cs3, hp2, hq2, -, hr7, hc6⟩ := s2.at hy2
   obtain ⟨p6, k6, p7, k7, rfl, s6, s7⟩ := qaH hr7
   refine zdxe hp2 hq2 he2 rfl ?_
   refine zd1 rfl ?_
   refine zdc 0 (hc6.below h.below) rfl ?_
   refine zd1 rfl ?_
   refine zdl 0 0 h rfl ?_
   refine zd2 rfl ?_
   by_cases hc7 : (y2.Kind == y1.Kind) = true
   ·replace hF := bifT hc7 hF
    refine qdc hc7 (t := 71) rfl (qi rfl (zd1 rfl (qi rfl ?_)))
    refine zdl 1 3 h rfl ?_
    refine qi rfl (zd1 rfl (qi rfl ?_))
    obtain ⟨y3, hy3, hF⟩ := qd hF
    have he3 := qf hy3
    obtain ⟨b4, o_3, q3, cs4, hp3, hq3, -, hr8, hc8⟩ := s2.at hy3
    obtain ⟨p8, k8, p9, k9, rfl, s8, s9⟩ := qaH hr8
    refine zdxe hp3 hq3 he3 rfl ?_
    refine qi rfl (zd1 rfl (qi rfl ?_))
    refine zdc 1 (hc8.below h.below) rfl ?_
    refine qi rfl (zd1 rfl (qi rfl ?_))
    refine zdl 0 1 h rfl ?_
    refine qi rfl (zd3 rfl ?_)
    by_cases hc9 : (y3.From == y1.From) = true
    ·replace hF := bifT hc9 hF
     refine qdc hc9 (t := 82) rfl (qi rfl (zd1 rfl (qi rfl ?_)))
     refine zdl 1 3 h rfl ?_
     refine qi rfl (zd1 rfl (qi rfl ?_))
     obtain ⟨y4, hy4, hF⟩ := qd hF
     have he4 := qf hy4
     obtain ⟨b5, o_4, q4, cs5, hp4, hq4, -, hr9, hc10⟩ := s2.at hy4
     obtain ⟨p10, k10, p11, k11, rfl, s10, s11⟩ := qaH hr9
     refine zdxe hp4 hq4 he4 rfl ?_
     refine qi rfl (zd1 rfl (qi rfl ?_))
     refine zdc 2 (hc10.below h.below) rfl ?_
     refine qi rfl (zd1 rfl (qi rfl ?_))
     refine zdl 0 2 h rfl ?_
     refine qi rfl (zd2 rfl ?_)
     refine qbj (fun w8 hb => ?_)
     replace h := h.ext hb
     clear hb
     refine qr rfl hF ?_ ?_ <;> intro hF
     ·refine zSR (zp1 rfl (qb ?_))
      obtain rfl := qh hF; replace hF := hK2
      obtain rfl := qh hF; replace hF := hK1
      exact qy qc h hF ⟨rfl, trivial⟩
     exact zKER (zp3 rfl (qb (qA m2 [(1, _), (3, _), (5, _), (6, _), (7, _)] (Nat.lt_succ_self m2) ⟨rfl, rfl, rfl, rfl, rfl, trivial⟩ ⟨_, hF, rfl, h⟩)))
    replace hc9 := zb hc9
    replace hF := bifF hc9 hF
    refine qdk hc9 (t := 82) rfl (qk rfl rfl rfl (qk rfl rfl rfl (qk rfl rfl rfl (qk rfl rfl rfl (qk rfl rfl rfl (qk rfl rfl rfl (qk rfl rfl rfl (qk rfl rfl rfl (qk rfl rfl rfl (zd1 rfl ?_))))))))))
    refine qbj (fun w9 hb => ?_)
    replace h := h.ext hb
    clear hb
    exact qdI rfl rfl (zKER (zp3 rfl (qb (qA m2 [(1, _), (3, _), (5, _), (6, _), (7, _)] (Nat.lt_succ_self m2) ⟨rfl, rfl, rfl, rfl, rfl, trivial⟩ ⟨_, hF, rfl, h⟩))))
   replace hc7 := zb hc7
   replace hF := bifF hc7 hF
   refine qdk hc7 (t := 71) rfl (qk rfl rfl rfl (qk rfl rfl rfl (qk rfl rfl rfl (qk rfl rfl rfl (qk rfl rfl rfl (qk rfl rfl rfl (qk rfl rfl rfl (qk rfl rfl rfl (qk rfl rfl rfl (zd2 rfl ?_))))))))))
   refine qk rfl rfl rfl (qk rfl rfl rfl (qk rfl rfl rfl (qk rfl rfl rfl (qk rfl rfl rfl (qk rfl rfl rfl (qk rfl rfl rfl (qk rfl rfl rfl (qk rfl rfl rfl (zd1 rfl ?_)))))))))
   refine qbj (fun w10 hb => ?_)
   replace h := h.ext hb
   clear hb
   exact qdI rfl rfl (zKER (zp3 rfl (qb (qA m2 [(1, _), (3, _), (5, _), (6, _), (7, _)] (Nat.lt_succ_self m2) ⟨rfl, rfl, rfl, rfl, rfl, trivial⟩ ⟨_, hF, rfl, h⟩))))
  refine qG rfl ?_
  obtain rfl := qh hF; replace hF := hK2
  refine qgr (qB (zp3 rfl (qb ?_)))
  replace h := h.pick [1] rfl
  exact qA m1 [(1, _), (3, _), (5, _)] (Nat.lt_succ_self m1) ⟨rfl, rfl, rfl, trivial⟩ ⟨_, hF, rfl, h⟩
 refine qG rfl ?_
 obtain rfl := qh hF; replace hF := hK1
 refine zSR (zl 0 0 h rfl ?_)
 obtain ⟨r5, hr10, hF⟩ := qd hF
 refine qai r5 h call217 (qlK (h.old ha1) hr10) rfl rfl rfl rfl ?_
 intro w11 S4 p12 k12 h
 refine zp1 rfl (zNSSR (zp1 rfl (zl 1 1 h rfl (qb (zBSR (zp1 rfl ?_))))))
 refine zp1 rfl (qb ?_)
 refine qr rfl hF ?_ ?_ <;> intro hF
 ·refine zSSR (zp1 rfl (qb ?_))
  obtain ⟨o3, hF, hK3⟩ := qd hF
  refine qw ?_
  replace h := h.pick [1] rfl
  refine qP [(1, _), (3, _), (9, _)] ⟨rfl, rfl, rfl, trivial⟩ ?_
  refine qH (fun m e w' => ∃ (i3 : Int), qdV a_0 m i3 = some o3 ∧ e = [(1, .pointer (some ⟨bb1, 0, none⟩)), (3, .int .i64 r2), (9, .int .i64 i3)] ∧ SH w w' [Ch.box bb1 [.string a_0.Name, .int .i64 a_0.Kind, .slice p1 a_0.Pins.length k1, .slice p2 a_0.Arcs.length k2, .slice p3 a_0.Truth.length k3, .int .i64 a_0.Leak, .int .i64 a_0.Energy] 183]) n ⟨_, hF, rfl, h⟩ ?_
  rintro m3 e3 w12 ⟨i3, hF, rfl, h⟩
  rcases m3 with _ | m3
  ·rw [qdV] at hF
   cases hF
  rw [qdV] at hF
  refine zSSR (zp2 rfl (zl 0 4 h rfl (zp2 rfl (qb ?_))))
  refine qr rfl hF ?_ ?_ <;> intro hF
  ·refine zKSBSR (zp1 rfl (zl 0 4 h rfl (zp1 rfl ?_)))
   obtain ⟨y5, hy5, hF⟩ := qd hF
   have he5 := qf hy5
   obtain ⟨b6, o_5, q5, cs6, hp5, hq5, -, hr11, hc14⟩ := s3.at hy5
   obtain rfl := hr11
   refine zxe hp5 hq5 he5 rfl (zc 0 (hc14.below h.below) rfl ?_)
   obtain ⟨r6, hr12, hF⟩ := qd hF
   refine qp r6 h call77 (qal hr12) rfl rfl rfl rfl ?_
   intro w13 h
   refine zp1 rfl (qb ?_)
   refine qr rfl hF ?_ ?_ <;> intro hF
   ·refine zSR (zp1 rfl (qb ?_))
    obtain rfl := qh hF; replace hF := hK3
    exact qy qc h hF ⟨rfl, trivial⟩
   exact zKER (zp3 rfl (qb (qA m3 [(1, _), (3, _), (9, _)] (Nat.lt_succ_self m3) ⟨rfl, rfl, rfl, trivial⟩ ⟨_, hF, rfl, h⟩)))
  refine qG rfl ?_
  obtain rfl := qh hF; replace hF := hK3
  refine zSR (zp3 rfl ?_)
  by_cases hc16 : (r2 == 0) = true
  ·replace hF := bifT hc16 hF
   refine qE hc16 (t := 115) rfl (qa rfl (zp1 rfl (qa rfl (zl 0 4 h rfl (qa rfl (zp1 rfl (qa rfl (zp1 rfl (qa rfl (zl 0 2 h rfl (qa rfl ?_)))))))))))
   refine zp1 rfl (qa rfl (zp1 rfl (qa rfl (zp1 rfl (qa rfl ?_)))))
   obtain ⟨y6, hx1, hF⟩ := qd hF
   obtain ⟨g1, hx1⟩ := qn1 hx1
   refine r_v (qsE g1 rfl rfl) rfl ?_
   rw [hx1]
   exact qa rfl (zp3 rfl (qb (qy qc h hF ⟨rfl, trivial⟩)))
  replace hc16 := zb hc16
  replace hF := bifF hc16 hF
  refine qD hc16 (t := 115) rfl (zn5 rfl (zn5 rfl (zp1 rfl ?_)))
  exact zp1 rfl (qb (qy qc h hF ⟨rfl, trivial⟩))
 refine zSR (zp2 rfl (qb ?_))
 refine qr rfl hF ?_ ?_ <;> intro hF
 ·refine qbq ?_
  refine qcN rfl (by kernel_rfl) ?_
  refine zd3 rfl ?_
  by_cases hc18 : (r2 == 1) = true
  ·replace hF := bifT hc18 hF
   refine qdc hc18 (t := 131) rfl (qi rfl (zd1 rfl (qi rfl ?_)))
   obtain ⟨y7, hy6, hF⟩ := qd hF
   have he6 := qf hy6
   obtain ⟨b7, o_6, q6, cs7, hp6, hq6, -, hr13, hc19⟩ := (h.sl 0 rfl).1.at hy6
   obtain rfl := hr13
   refine zdx hp6 hq6 ⟨he6.1, qae he6.2.1 (h.sl 0 rfl).2⟩ rfl ?_
   refine qi rfl ?_
   refine zdc 0 hc19 rfl ?_
   refine qi rfl (zd3 rfl ?_)
   by_cases hc20 : (y7 == 0) = true
   ·replace hF := bifT hc20 hF
    refine qdc hc20 (t := 137) rfl (qi rfl (zd1 rfl (qi rfl ?_)))
    obtain ⟨y8, hy7, hF⟩ := qd hF
    have he7 := qf hy7
    obtain ⟨b8, o_7, q7, cs8, hp7, hq7, -, hr14, hc21⟩ := (h.sl 0 rfl).1.at hy7
    obtain rfl := hr14
    refine zdx hp7 hq7 ⟨he7.1, qae he7.2.1 (h.sl 0 rfl).2⟩ rfl ?_
    refine qi rfl ?_
    refine zdc 0 hc21 rfl ?_
    refine qi rfl (zd1 rfl (qi rfl (zd1 rfl (qi rfl ?_))))
    obtain ⟨y9, hy8, hF⟩ := qd hF
    have he8 := qf hy8
    obtain ⟨b9, o_8, q8, cs9, hp8, hq8, -, hr15, hc22⟩ := (h.sl 0 rfl).1.at hy8
    obtain rfl := hr15
    refine zdx hp8 hq8 ⟨he8.1, qae he8.2.1 (h.sl 0 rfl).2⟩ rfl ?_
    refine qi rfl ?_
    refine zdc 0 hc22 rfl ?_
    refine qi rfl (zd1 rfl (qi rfl (zd3 rfl ?_)))
    by_cases hc23 : (!((decide (y8 > 0)) == (decide (y9 > 0)))) = true
    ·replace hF := bifT hc23 hF
     refine qdc hc23 (t := 148) rfl (qi rfl (zd1 rfl (qi rfl ?_)))
     refine zdl 1 4 h rfl ?_
     refine qi rfl (zd1 rfl (qi rfl (zd3 rfl ?_)))
     refine qbj (fun w14 hb => ?_)
     replace h := h.ext hb
     clear hb
     exact qy qc h hF ⟨rfl, trivial⟩
    replace hc23 := zb hc23
    replace hF := bifF hc23 hF
    refine qdk hc23 (t := 148) rfl (qk rfl rfl rfl (qk rfl rfl rfl (qk rfl rfl rfl (qk rfl rfl rfl (zd2 rfl ?_)))))
    refine qbj (fun w15 hb => ?_)
    replace h := h.ext hb
    clear hb
    exact qy qc h hF ⟨rfl, trivial⟩
   replace hc20 := zb hc20
   replace hF := bifF hc20 hF
   refine qdk hc20 (t := 137) rfl (qk rfl rfl rfl (qk rfl rfl rfl (qk rfl rfl rfl (qk rfl rfl rfl (qk rfl rfl rfl (qk rfl rfl rfl (qk rfl rfl rfl (qk rfl rfl rfl (qk rfl rfl rfl (zd2 rfl ?_))))))))))
   refine qk rfl rfl rfl (qk rfl rfl rfl (qk rfl rfl rfl (qk rfl rfl rfl (zd2 rfl ?_))))
   refine qbj (fun w16 hb => ?_)
   replace h := h.ext hb
   clear hb
   exact qy qc h hF ⟨rfl, trivial⟩
  replace hc18 := zb hc18
  replace hF := bifF hc18 hF
  refine qdk hc18 (t := 131) rfl (qk rfl rfl rfl (qk rfl rfl rfl (qk rfl rfl rfl (qk rfl rfl rfl (zd2 rfl (qk rfl rfl rfl (qk rfl rfl rfl (qk rfl rfl rfl (qk rfl rfl rfl (qk rfl rfl rfl ?_))))))))))
  refine qk rfl rfl rfl (qk rfl rfl rfl (qk rfl rfl rfl (qk rfl rfl rfl (zd2 rfl (qk rfl rfl rfl (qk rfl rfl rfl (qk rfl rfl rfl (qk rfl rfl rfl (zd2 rfl ?_)))))))))
  refine qbj (fun w17 hb => ?_)
  replace h := h.ext hb
  clear hb
  exact qy qc h hF ⟨rfl, trivial⟩
 refine zSR (zp2 rfl (qb ?_))
 refine qr rfl hF ?_ ?_ <;> intro hF
 ·refine zSR (zp3 rfl ?_)
  by_cases hc25 : (r2 == 1) = true
  ·replace hF := bifT hc25 hF
   refine qE hc25 (t := 158) rfl (qa rfl (zp1 rfl (qa rfl ?_)))
   obtain ⟨y10, hy9, hF⟩ := qd hF
   have he9 := qf hy9
   obtain ⟨b10, o_9, q9, cs10, hp9, hq9, -, hr16, hc26⟩ := (h.sl 0 rfl).1.at hy9
   obtain rfl := hr16
   refine zx hp9 hq9 ⟨he9.1, qae he9.2.1 (h.sl 0 rfl).2⟩ rfl (qa rfl (zc 0 hc26 rfl (qa rfl (zp3 rfl ?_))))
   by_cases hc27 : (decide (y10 > 0)) = true
   ·replace hF := bifT hc27 hF
    refine qE hc27 (t := 164) rfl (qa rfl (zp1 rfl (qa rfl ?_)))
    obtain ⟨y11, hy10, hF⟩ := qd hF
    have he10 := qf hy10
    obtain ⟨b11, o_10, q10, cs11, hp10, hq10, -, hr17, hc28⟩ := (h.sl 0 rfl).1.at hy10
    obtain rfl := hr17
    refine zx hp10 hq10 ⟨he10.1, qae he10.2.1 (h.sl 0 rfl).2⟩ rfl (qa rfl (zc 0 hc28 rfl (qa rfl (zp3 rfl ?_))))
    by_cases hc29 : (decide (y11 > 0)) = true
    ·replace hF := bifT hc29 hF
     refine qE hc29 (t := 170) rfl (qa rfl (zp1 rfl (qa rfl ?_)))
     obtain ⟨y12, hy11, hF⟩ := qd hF
     have he11 := qf hy11
     obtain ⟨b12, o_11, q11, cs12, hp11, hq11, -, hr18, hc30⟩ := (h.sl 0 rfl).1.at hy11
     obtain rfl := hr18
     refine zx hp11 hq11 ⟨he11.1, qae he11.2.1 (h.sl 0 rfl).2⟩ rfl (qa rfl (zc 0 hc30 rfl (qa rfl (zp3 rfl ?_))))
     by_cases hc31 : (y12 == 0) = true
     ·replace hF := bifT hc31 hF
      refine qE hc31 (t := 176) rfl (qa rfl (zp1 rfl (qa rfl (zl 1 4 h rfl (qa rfl (zp1 rfl (qa rfl (zp3 rfl (qb ?_)))))))))
      exact qy qc h hF ⟨rfl, trivial⟩
     replace hc31 := zb hc31
     replace hF := bifF hc31 hF
     exact qD hc31 (t := 176) rfl (zn4 rfl (zp2 rfl (qb (qy qc h hF ⟨rfl, trivial⟩))))
    replace hc29 := zb hc29
    replace hF := bifF hc29 hF
    refine qD hc29 (t := 170) rfl (zn4 rfl (zp2 rfl (zn4 rfl (zp1 rfl ?_))))
    exact zp1 rfl (qb (qy qc h hF ⟨rfl, trivial⟩))
   replace hc27 := zb hc27
   replace hF := bifF hc27 hF
   refine qD hc27 (t := 164) rfl (zn4 rfl (zp2 rfl (zn4 rfl (zp1 rfl ?_))))
   exact zp1 rfl (zn4 rfl (zp2 rfl (qb (qy qc h hF ⟨rfl, trivial⟩))))
  replace hc25 := zb hc25
  replace hF := bifF hc25 hF
  refine qD hc25 (t := 158) rfl (zn4 rfl (zp2 rfl (zn4 rfl (zp1 rfl ?_))))
  refine zp1 rfl (zn4 rfl (zp2 rfl (zn4 rfl (zp1 rfl ?_))))
  exact zp1 rfl (qb (qy qc h hF ⟨rfl, trivial⟩))
 exact zKE (zSR (zp1 rfl (qb (qy qc h hF ⟨rfl, trivial⟩))))

def qcz (l : qv) (i1 : Int) : Nat → Int → Option (Flow Bool Int)
 | 0, _ => none
 | n + 1, i2 =>
  bif decide (i2 < i1) then
   (idx l.Cells i2).bind fun y2 =>
   (idx l.Cells i1).bind fun y3 =>
   bif (y2.Name.toList == y3.Name.toList) then
    some (.ret false)
   else
    qcz l i1 n (W64 (i2 + 1))
  else
   some (.nxt i2)

def qcw (l : qv) : Nat → Int → Option (Flow Bool Int)
 | 0, _ => none
 | n + 1, i1 =>
  bif decide (i1 < (l.Cells.length : Int)) then
   (idx l.Cells i1).bind fun y1 =>
   (qim n y1).bind fun r1 =>
   bif (!r1) then
    some (.ret false)
   else
    (qcz l i1 n 0).bind fun o => match o with
    | .ret r => some (.ret r)
    | .nxt _ =>
     qcw l n (W64 (i1 + 1))
  else
   some (.nxt i1)

def qgs (n : Nat) (l : qv) : Option Bool :=
 (qcw l n 0).bind fun o => match o with
 | .ret r => some r
 | .nxt _ =>
  some (decide ((l.Cells.length : Int) ≤ 8))

theorem qlk {n : Nat} {w : World} {l : qv} {cs1 : List Value} (ha1 : GoT.R w (old w) l cs1) {r : Bool} (hF : qgs n l = some r) : RetV Tryz.prog 176 [GoT.v qv cs1] w r := by
 obtain ⟨p1, k1, rfl, s1⟩ := qbA ha1
 refine qe Tryz.func176 rfl (m := 41) rfl rfl (fun h => ?_)
 rw [qgs] at hF
 refine zSR (qN h rfl rfl ?_)
 intro w1 bb1 h
 refine zp1 rfl (zNSSR (zp1 rfl (qb ?_)))
 obtain ⟨o1, hF, hK1⟩ := qd hF
 refine qw (qP [(1, _), (3, _)] ⟨rfl, rfl, trivial⟩ ?_)
 refine qH (fun m e w' => ∃ (i1 : Int), qcw l m i1 = some o1 ∧ e = [(1, .pointer (some ⟨bb1, 0, none⟩)), (3, .int .i64 i1)] ∧ SH w w' [Ch.box bb1 [.slice p1 l.Cells.length k1] 43]) n ⟨_, hF, rfl, h⟩ ?_
 rintro m1 e1 w2 ⟨i1, hF, rfl, h⟩
 rcases m1 with _ | m1
 ·rw [qcw] at hF
  cases hF
 rw [qcw] at hF
 refine zSSR (zp2 rfl (zl 0 0 h rfl (zp2 rfl (qb ?_))))
 refine qr rfl hF ?_ ?_ <;> intro hF
 ·refine zKSB (zSSR (zp1 rfl (zl 0 0 h rfl (zp1 rfl ?_))))
  obtain ⟨y1, hy1, hF⟩ := qd hF
  have he1 := qf hy1
  obtain ⟨b1, o_1, q1, cs2, hp1, hq1, -, hr1, hc2⟩ := s1.at hy1
  obtain ⟨p2, k2, p3, k3, p4, k4, rfl, s2, s3, s4⟩ := qY hr1
  refine zxe hp1 hq1 he1 rfl (zc 0 (hc2.below h.below) rfl ?_)
  obtain ⟨r1, hr2, hF⟩ := qd hF
  refine qp r1 h call202 (qm6 (qhd y1 (h.oldS s2) (h.oldS s3) (h.oldS s4)) hr2) rfl rfl rfl rfl ?_
  intro w3 h
  refine zp1 rfl (qb ?_)
  refine qr rfl hF ?_ ?_ <;> intro hF
  ·refine zSR (zp1 rfl (qb ?_))
   obtain rfl := qh hF; replace hF := hK1
   exact qy qc h hF ⟨rfl, trivial⟩
  refine zKSR (zp1 rfl (qb ?_))
  obtain ⟨o2, hF, hK2⟩ := qd hF
  refine qw (qP [(1, _), (3, _), (4, _)] ⟨rfl, rfl, rfl, trivial⟩ ?_)
  refine qH (fun m e w' => ∃ (i2 : Int), qcz l i1 m i2 = some o2 ∧ e = [(1, .pointer (some ⟨bb1, 0, none⟩)), (3, .int .i64 i1), (4, .int .i64 i2)] ∧ SH w w' [Ch.box bb1 [.slice p1 l.Cells.length k1] 43]) m1 ⟨_, hF, rfl, h⟩ ?_
  rintro m2 e2 w4 ⟨i2, hF, rfl, h⟩
  rcases m2 with _ | m2
  ·rw [qcz] at hF
   cases hF
  rw [qcz] at hF
  refine zSSR (zp3 rfl (qb ?_))
  refine qr rfl hF ?_ ?_ <;> intro hF
  ·refine zKSB (qbq ?_)
   refine qcN rfl (by kernel_rfl) ?_
   refine zd1 rfl ?_
   refine zdl 0 0 h rfl ?_
   refine zd1 rfl ?_
   obtain ⟨y2, hy2, hF⟩ := qd hF
   have he2 := qf hy2
   obtain ⟨b2, o_2, q2, cs3, hp2, hq2, -, hr3, hc5⟩ := s1.at hy2
   obtain ⟨p5, k5, p6, k6, p7, k7, rfl, s5, s6, s7⟩ := qY hr3
   refine zdxe hp2 hq2 he2 rfl ?_
   refine zd1 rfl ?_
   refine zdc 0 (hc5.below h.below) rfl ?_
   refine zd1 rfl ?_
   refine zdl 0 0 h rfl ?_
   refine zd1 rfl ?_
   obtain ⟨y3, hy3, hF⟩ := qd hF
   have he3 := qf hy3
   obtain ⟨b3, o_3, q3, cs4, hp3, hq3, -, hr4, hc6⟩ := s1.at hy3
   obtain ⟨p8, k8, p9, k9, p10, k10, rfl, s8, s9, s10⟩ := qY hr4
   refine zdxe hp3 hq3 he3 rfl ?_
   refine zd1 rfl ?_
   refine zdc 0 (hc6.below h.below) rfl ?_
   refine zd1 rfl ?_
   refine qbj (fun w5 hb => ?_)
   replace h := h.ext hb
   clear hb
   refine qr rfl hF ?_ ?_ <;> intro hF
   ·refine zSR (zp1 rfl (qb ?_))
    obtain rfl := qh hF; replace hF := hK2
    obtain rfl := qh hF; replace hF := hK1
    exact qy qc h hF ⟨rfl, trivial⟩
   exact zKER (zp3 rfl (qb (qA m2 [(1, _), (3, _), (4, _)] (Nat.lt_succ_self m2) ⟨rfl, rfl, rfl, trivial⟩ ⟨_, hF, rfl, h⟩)))
  refine qG rfl ?_
  obtain rfl := qh hF; replace hF := hK2
  exact qgr (qB (zp3 rfl (qb (qA m1 [(1, _), (3, _)] (Nat.lt_succ_self m1) ⟨rfl, rfl, trivial⟩ ⟨_, hF, rfl, h⟩))))
 refine qG rfl ?_
 obtain rfl := qh hF; replace hF := hK1
 exact zSR (zp1 rfl (zl 0 0 h rfl (zp3 rfl (qb (qy qc h hF ⟨rfl, trivial⟩)))))

def qcU (a_1 : qj) (y1 : qm) : Nat → Int → Option (Flow Bool Int)
 | 0, _ => none
 | n + 1, i2 =>
  bif decide (i2 < (y1.Nets.length : Int)) then
   (idx y1.Nets i2).bind fun y2 =>
   (qaD n y2 0 (W64 ((a_1.Nets.length : Int) - 1))).bind fun r1 =>
   bif (!r1) then
    some (.ret false)
   else
    qcU a_1 y1 n (W64 (i2 + 1))
  else
   some (.nxt i2)

def qc2 (a_1 : qj) : Nat → Int → Option (Flow Bool Int)
 | 0, _ => none
 | n + 1, i3 =>
  bif decide (i3 < (a_1.Ports.length : Int)) then
   (idx a_1.Ports i3).bind fun y4 =>
   (qaD n y4.Dir 1 2).bind fun r3 =>
   bif (!r3) then
    some (.ret false)
   else
    (idx a_1.Ports i3).bind fun y5 =>
    (qaD n y5.Net 0 (W64 ((a_1.Nets.length : Int) - 1))).bind fun r4 =>
    bif (!r4) then
     some (.ret false)
    else
     qc2 a_1 n (W64 (i3 + 1))
  else
   some (.nxt i3)

def qcV (a_0 : qv) (a_1 : qj) : Nat → Int → Option (Flow Bool Int)
 | 0, _ => none
 | n + 1, i1 =>
  bif decide (i1 < (a_1.Instances.length : Int)) then
   (idx a_1.Instances i1).bind fun y1 =>
   (
    (qaD n y1.Cell 0 (W64 ((a_0.Cells.length : Int) - 1))).bind fun r2 =>
    bif (!r2) then
     some true
    else
     (idx a_0.Cells y1.Cell).bind fun y3 =>
     some ((y1.Nets.length : Int) != (y3.Pins.length : Int))).bind fun b2 =>
   bif b2 then
    some (.ret false)
   else
    (qcU a_1 y1 n 0).bind fun o => match o with
    | .ret r => some (.ret r)
    | .nxt _ =>
     qcV a_0 a_1 n (W64 (i1 + 1))
  else
   some (.nxt i1)

def qgR (n : Nat) (a_0 : qv) (a_1 : qj) : Option Bool :=
 (qcV a_0 a_1 n 0).bind fun o => match o with
 | .ret r => some r
 | .nxt _ =>
  (qc2 a_1 n 0).bind fun o => match o with
  | .ret r => some r
  | .nxt _ =>
   some true

theorem qlP {n : Nat} {w : World} {a_0 : qv} {a_1 : qj} {cs1 : List Value} (ha1 : GoT.R w (old w) a_0 cs1) {cs2 : List Value} (ha2 : GoT.R w (old w) a_1 cs2) {r : Bool} (hF : qgR n a_0 a_1 = some r) : RetV Tryz.prog 177 [GoT.v qv cs1, GoT.v qj cs2] w r := by
 obtain ⟨p1, k1, rfl, s1⟩ := qbA ha1
 obtain ⟨p2, k2, p3, k3, p4, k4, rfl, s2, s3, s4⟩ := qaE ha2
 refine qe Tryz.func177 rfl (m := 90) rfl rfl (fun h => ?_)
 rw [qgR] at hF
 refine zSR (qN h rfl rfl ?_)
 intro w1 bb1 h
 refine qN h rfl rfl ?_
 intro w2 bb2 h
 refine zp1 rfl (zNSR (zp1 rfl (zl 0 1 h rfl (zp2 rfl (zNSSR ?_)))))
 refine zp1 rfl (qb ?_)
 obtain ⟨o1, hF, hK1⟩ := qd hF
 refine qw (qP [(2, _), (3, _), (5, _), (6, _)] ⟨rfl, rfl, rfl, rfl, trivial⟩ ?_)
 refine qH (fun m e w' => ∃ (i1 : Int), qcV a_0 a_1 m i1 = some o1 ∧ e = [(2, .pointer (some ⟨bb1, 0, none⟩)), (3, .pointer (some ⟨bb2, 0, none⟩)), (5, .int .i64 (a_1.Nets.length : Int)), (6, .int .i64 i1)] ∧ SH w w' [Ch.box bb2 [.slice p2 a_1.Instances.length k2, .slice p3 a_1.Nets.length k3, .slice p4 a_1.Ports.length k4] 47, Ch.box bb1 [.slice p1 a_0.Cells.length k1] 43]) n ⟨_, hF, rfl, h⟩ ?_
 rintro m1 e1 w3 ⟨i1, hF, rfl, h⟩
 rcases m1 with _ | m1
 ·rw [qcV] at hF
  cases hF
 rw [qcV] at hF
 refine zSSR (zp2 rfl (zl 0 0 h rfl (zp2 rfl (qb ?_))))
 refine qr rfl hF ?_ ?_ <;> intro hF
 ·refine zKSBSR (zp1 rfl (zl 0 0 h rfl (zp1 rfl ?_)))
  obtain ⟨y1, hy1, hF⟩ := qd hF
  have he1 := qf hy1
  obtain ⟨b1, o_1, q1, cs3, hp1, hq1, -, hr1, hc2⟩ := s2.at hy1
  obtain ⟨p5, k5, rfl, s5⟩ := qab hr1
  refine zxe hp1 hq1 he1 rfl (zc 0 (hc2.below h.below) rfl (qaa qc h rfl rfl rfl ?_))
  intro w4 bb3 h
  refine zs 0 h rfl ?_
  intro w5 h
  refine zNSS ?_
  obtain ⟨KF1, hKF1, o3, hF, hK3⟩ := bindE hF
  refine qek (fun e w' => ∃ (b2 : Bool), KF1 b2 = some o1 ∧ e = [(2, .pointer (some ⟨bb1, 0, none⟩)), (3, .pointer (some ⟨bb2, 0, none⟩)), (5, .int .i64 (a_1.Nets.length : Int)), (6, .int .i64 i1), (7, .pointer (some ⟨bb3, 0, none⟩)), (46, .bool b2)] ∧ SH w w' [Ch.box bb3 [.string y1.Name, .int .i64 y1.Cell, .slice p5 y1.Nets.length k5] 185, Ch.box bb2 [.slice p2 a_1.Instances.length k2, .slice p3 a_1.Nets.length k3, .slice p4 a_1.Ports.length k4] 47, Ch.box bb1 [.slice p1 a_0.Cells.length k1] 43]) ?_ ?_
  ·refine qcN rfl (by kernel_rfl) ?_
   refine zd1 rfl ?_
   refine zdl 0 1 h rfl ?_
   refine zd1 rfl ?_
   refine zdl 2 0 h rfl ?_
   refine zd2 rfl ?_
   obtain ⟨r2, hr4, hF⟩ := qd hF
   refine qcO r2 (vsB _) call77 (fun _ hb => qal  hr4) rfl rfl rfl rfl ?_
   refine zd2 rfl ?_
   by_cases hc7 : (!r2) = true
   ·replace hF := bifT hc7 hF
    refine qdc hc7 (t := 33) rfl (qk rfl rfl rfl (qk rfl rfl rfl (qk rfl rfl rfl (qk rfl rfl rfl (qk rfl rfl rfl (qk rfl rfl rfl (qk rfl rfl rfl (qk rfl rfl rfl (qk rfl rfl rfl (qk rfl rfl rfl (qk rfl rfl rfl ?_)))))))))))
    refine qk rfl rfl rfl (zd1 rfl ?_)
    refine qbj (fun w8 hb => ?_)
    replace h := h.ext hb
    clear hb
    obtain rfl := qh hF
    exact qx [(2, _), (3, _), (5, _), (6, _), (7, _), (46, _)] ⟨rfl, rfl, rfl, rfl, rfl, rfl, trivial⟩ ⟨_, hK3, rfl, h⟩
   replace hc7 := zb hc7
   replace hF := bifF hc7 hF
   refine qdk hc7 (t := 33) rfl (qi rfl (zd1 rfl (qi rfl ?_)))
   refine zdl 0 2 h rfl ?_
   refine qi rfl (zd1 rfl (qi rfl (zd1 rfl (qi rfl ?_))))
   refine zdl 2 0 h rfl ?_
   refine qi rfl (zd1 rfl (qi rfl ?_))
   refine zdl 0 1 h rfl ?_
   refine qi rfl ?_
   obtain ⟨y3, hy3, hF⟩ := qd hF
   have he3 := qf hy3
   obtain ⟨b4, o_3, q3, cs5, hp3, hq3, -, hr5, hc8⟩ := s1.at hy3
   obtain ⟨p6, k6, p7, k7, p8, k8, rfl, s6, s7, s8⟩ := qY hr5
   refine zdxe hp3 hq3 he3 rfl ?_
   refine qi rfl (zd1 rfl (qi rfl ?_))
   refine zdc 2 (hc8.below h.below) rfl ?_
   refine qi rfl (zd1 rfl (qi rfl (zd2 rfl ?_)))
   refine qbj (fun w9 hb => ?_)
   replace h := h.ext hb
   clear hb
   obtain rfl := qh hF
   exact qx [(2, _), (3, _), (5, _), (6, _), (7, _), (46, _)] ⟨rfl, rfl, rfl, rfl, rfl, rfl, trivial⟩ ⟨_, hK3, rfl, h⟩
  rintro e3 w10 ⟨b2, hF, rfl, h⟩
  subst hKF1
  refine qr rfl hF ?_ ?_ <;> intro hF
  ·refine zSR (zp1 rfl (qb ?_))
   obtain rfl := qh hF; replace hF := hK1
   exact qy qc h hF ⟨rfl, trivial⟩
  refine zKSR (zp1 rfl (qb ?_))
  obtain ⟨o2, hF, hK2⟩ := qd hF
  refine qw (qP [(2, _), (3, _), (5, _), (6, _), (7, _), (8, _)] ⟨rfl, rfl, rfl, rfl, rfl, rfl, trivial⟩ ?_)
  refine qH (fun m e w' => ∃ (i2 : Int), qcU a_1 y1 m i2 = some o2 ∧ e = [(2, .pointer (some ⟨bb1, 0, none⟩)), (3, .pointer (some ⟨bb2, 0, none⟩)), (5, .int .i64 (a_1.Nets.length : Int)), (6, .int .i64 i1), (7, .pointer (some ⟨bb3, 0, none⟩)), (8, .int .i64 i2)] ∧ SH w w' [Ch.box bb3 [.string y1.Name, .int .i64 y1.Cell, .slice p5 y1.Nets.length k5] 185, Ch.box bb2 [.slice p2 a_1.Instances.length k2, .slice p3 a_1.Nets.length k3, .slice p4 a_1.Ports.length k4] 47, Ch.box bb1 [.slice p1 a_0.Cells.length k1] 43]) m1 ⟨_, hF, rfl, h⟩ ?_
  rintro m2 e2 w6 ⟨i2, hF, rfl, h⟩
  rcases m2 with _ | m2
  ·rw [qcU] at hF
   cases hF
  rw [qcU] at hF
  refine zSSR (zp2 rfl (zl 0 2 h rfl (zp2 rfl (qb ?_))))
  refine qr rfl hF ?_ ?_ <;> intro hF
  ·refine zKSBSR (zp1 rfl (zl 0 2 h rfl (zp1 rfl ?_)))
   obtain ⟨y2, hy2, hF⟩ := qd hF
   have he2 := qf hy2
   obtain ⟨b3, o_2, q2, cs4, hp2, hq2, -, hr2, hc5⟩ := s5.at hy2
   obtain rfl := hr2
   refine zxe hp2 hq2 he2 rfl (zc 0 (hc5.below h.below) rfl (zp2 rfl ?_))
   obtain ⟨r1, hr3, hF⟩ := qd hF
   refine qp r1 h call77 (qal hr3) rfl rfl rfl rfl ?_
   intro w7 h
   refine zp1 rfl (qb ?_)
   refine qr rfl hF ?_ ?_ <;> intro hF
   ·refine zSR (zp1 rfl (qb ?_))
    obtain rfl := qh hF; replace hF := hK2
    obtain rfl := qh hF; replace hF := hK1
    exact qy qc h hF ⟨rfl, trivial⟩
   exact zKER (zp3 rfl (qb (qA m2 [(2, _), (3, _), (5, _), (6, _), (7, _), (8, _)] (Nat.lt_succ_self m2) ⟨rfl, rfl, rfl, rfl, rfl, rfl, trivial⟩ ⟨_, hF, rfl, h⟩)))
  refine qG rfl ?_
  obtain rfl := qh hF; replace hF := hK2
  refine qgr (qB (zp3 rfl (qb ?_)))
  replace h := h.pick [1, 2] rfl
  exact qA m1 [(2, _), (3, _), (5, _), (6, _)] (Nat.lt_succ_self m1) ⟨rfl, rfl, rfl, rfl, trivial⟩ ⟨_, hF, rfl, h⟩
 refine qG rfl ?_
 obtain rfl := qh hF; replace hF := hK1
 refine zSSR (zp1 rfl (qb ?_))
 obtain ⟨o4, hF, hK4⟩ := qd hF
 refine qw ?_
 replace h := h.pick [0] rfl
 refine qP [(3, _), (5, _), (9, _)] ⟨rfl, rfl, rfl, trivial⟩ ?_
 refine qH (fun m e w' => ∃ (i3 : Int), qc2 a_1 m i3 = some o4 ∧ e = [(3, .pointer (some ⟨bb2, 0, none⟩)), (5, .int .i64 (a_1.Nets.length : Int)), (9, .int .i64 i3)] ∧ SH w w' [Ch.box bb2 [.slice p2 a_1.Instances.length k2, .slice p3 a_1.Nets.length k3, .slice p4 a_1.Ports.length k4] 47]) n ⟨_, hF, rfl, h⟩ ?_
 rintro m3 e4 w11 ⟨i3, hF, rfl, h⟩
 rcases m3 with _ | m3
 ·rw [qc2] at hF
  cases hF
 rw [qc2] at hF
 refine zSSR (zp2 rfl (zl 0 2 h rfl (zp2 rfl (qb ?_))))
 refine qr rfl hF ?_ ?_ <;> intro hF
 ·refine zKSBSR (zp1 rfl (zl 0 2 h rfl (zp1 rfl ?_)))
  obtain ⟨y4, hy4, hF⟩ := qd hF
  have he4 := qf hy4
  obtain ⟨b5, o_4, q4, cs6, hp4, hq4, -, hr6, hc10⟩ := s4.at hy4
  obtain rfl := qa8 hr6
  refine zxe hp4 hq4 he4 rfl (zp1 rfl (zc 1 (hc10.below h.below) rfl ?_))
  obtain ⟨r3, hr7, hF⟩ := qd hF
  refine qp r3 h call77 (qal hr7) rfl rfl rfl rfl ?_
  intro w12 h
  refine zp2 rfl ?_
  by_cases hc11 : (!r3) = true
  ·replace hF := bifT hc11 hF
   refine qE hc11 (t := 78) rfl (zn5 rfl (zn5 rfl (zp1 rfl ?_)))
   refine qb (qe1 rfl rfl (zSR (zp1 rfl (qb ?_))))
   obtain rfl := qh hF; replace hF := hK4
   exact qy qc h hF ⟨rfl, trivial⟩
  replace hc11 := zb hc11
  replace hF := bifF hc11 hF
  refine qD hc11 (t := 78) rfl (qa rfl (zp1 rfl (qa rfl (zl 0 2 h rfl (qa rfl (zp1 rfl (qa rfl ?_)))))))
  obtain ⟨y5, hy5, hF⟩ := qd hF
  have he5 := qf hy5
  obtain ⟨b6, o_5, q5, cs7, hp5, hq5, -, hr8, hc12⟩ := s4.at hy5
  obtain rfl := qa8 hr8
  refine zxe hp5 hq5 he5 rfl (qa rfl (zp1 rfl (qa rfl (zc 2 (hc12.below h.below) rfl (qa rfl (zp1 rfl (qa rfl (zp1 rfl (qa rfl ?_)))))))))
  obtain ⟨r4, hr9, hF⟩ := qd hF
  refine qp r4 h call77 (qal hr9) rfl rfl rfl rfl ?_
  intro w13 h
  refine qa rfl (zp2 rfl (qb ?_))
  refine qr rfl hF ?_ ?_ <;> intro hF
  ·refine zSR (zp1 rfl (qb ?_))
   obtain rfl := qh hF; replace hF := hK4
   exact qy qc h hF ⟨rfl, trivial⟩
  exact zKER (zp3 rfl (qb (qA m3 [(3, _), (5, _), (9, _)] (Nat.lt_succ_self m3) ⟨rfl, rfl, rfl, trivial⟩ ⟨_, hF, rfl, h⟩)))
 refine qG rfl ?_
 obtain rfl := qh hF; replace hF := hK4
 exact zSR (zp1 rfl (qb (qy qc h hF ⟨rfl, trivial⟩)))

def qcS (list : (List ByteArray)) (i1 : Int) : Nat → Int → Option (Flow Bool Int)
 | 0, _ => none
 | n + 1, i2 =>
  bif decide (i2 < i1) then
   (idx list i2).bind fun y2 =>
   (idx list i1).bind fun y3 =>
   bif (y2.toList == y3.toList) then
    some (.ret false)
   else
    qcS list i1 n (W64 (i2 + 1))
  else
   some (.nxt i2)

def qcR (list : (List ByteArray)) : Nat → Int → Option (Flow Bool Int)
 | 0, _ => none
 | n + 1, i1 =>
  bif decide (i1 < (list.length : Int)) then
   (idx list i1).bind fun y1 =>
   (qfL n y1).bind fun r1 =>
   bif (!r1) then
    some (.ret false)
   else
    (qcS list i1 n 0).bind fun o => match o with
    | .ret r => some (.ret r)
    | .nxt _ =>
     qcR list n (W64 (i1 + 1))
  else
   some (.nxt i1)

def qff (n : Nat) (list : (List ByteArray)) : Option Bool :=
 (qcR list n 0).bind fun o => match o with
 | .ret r => some r
 | .nxt _ =>
  some true

theorem qhX {n : Nat} {w : World} {list : (List ByteArray)} {cs1 : List Value} (ha1 : GoT.R w (old w) list cs1) {r : Bool} (hF : qff n list = some r) : RetV Tryz.prog 178 [GoT.v (List ByteArray) cs1] w r := by
 obtain ⟨p1, k1, rfl, s1⟩ := ha1
 refine qe Tryz.func178 rfl (m := 31) rfl rfl (fun h => ?_)
 rw [qff] at hF
 refine zSR (zp1 rfl (zNSSR (zp1 rfl (qb ?_))))
 obtain ⟨o1, hF, hK1⟩ := qd hF
 refine qw (qP [(0, _), (3, _)] ⟨rfl, rfl, trivial⟩ ?_)
 refine qH (fun m e w' => ∃ (i1 : Int), qcR list m i1 = some o1 ∧ e = [(0, .slice p1 list.length k1), (3, .int .i64 i1)] ∧ SH w w' []) n ⟨_, hF, rfl, h⟩ ?_
 rintro m1 e1 w1 ⟨i1, hF, rfl, h⟩
 rcases m1 with _ | m1
 ·rw [qcR] at hF
  cases hF
 rw [qcR] at hF
 refine zSSR (zp4 rfl (qb ?_))
 refine qr rfl hF ?_ ?_ <;> intro hF
 ·refine zKSB (zSSR (zp2 rfl ?_))
  obtain ⟨y1, hy1, hF⟩ := qd hF
  have he1 := qf hy1
  obtain ⟨b1, o_1, q1, cs2, hp1, hq1, -, hr1, hc2⟩ := s1.at hy1
  obtain rfl := hr1
  refine zxe hp1 hq1 he1 rfl (zc 0 (hc2.below h.below) rfl ?_)
  obtain ⟨r1, hr2, hF⟩ := qd hF
  refine qp r1 h call203 (qix hr2) rfl rfl rfl rfl ?_
  intro w2 h
  refine zp1 rfl (qb ?_)
  refine qr rfl hF ?_ ?_ <;> intro hF
  ·refine zSR (zp1 rfl (qb ?_))
   obtain rfl := qh hF; replace hF := hK1
   exact qy qc h hF ⟨rfl, trivial⟩
  refine zKSR (zp1 rfl (qb ?_))
  obtain ⟨o2, hF, hK2⟩ := qd hF
  refine qw (qP [(0, _), (3, _), (4, _)] ⟨rfl, rfl, rfl, trivial⟩ ?_)
  refine qH (fun m e w' => ∃ (i2 : Int), qcS list i1 m i2 = some o2 ∧ e = [(0, .slice p1 list.length k1), (3, .int .i64 i1), (4, .int .i64 i2)] ∧ SH w w' []) m1 ⟨_, hF, rfl, h⟩ ?_
  rintro m2 e2 w3 ⟨i2, hF, rfl, h⟩
  rcases m2 with _ | m2
  ·rw [qcS] at hF
   cases hF
  rw [qcS] at hF
  refine zSSR (zp3 rfl (qb ?_))
  refine qr rfl hF ?_ ?_ <;> intro hF
  ·refine zKSB (qbq ?_)
   refine qcN rfl (by kernel_rfl) ?_
   refine zd2 rfl ?_
   obtain ⟨y2, hy2, hF⟩ := qd hF
   have he2 := qf hy2
   obtain ⟨b2, o_2, q2, cs3, hp2, hq2, -, hr3, hc5⟩ := s1.at hy2
   obtain rfl := hr3
   refine zdxe hp2 hq2 he2 rfl ?_
   refine zdc 0 (hc5.below h.below) rfl ?_
   refine zd2 rfl ?_
   obtain ⟨y3, hy3, hF⟩ := qd hF
   have he3 := qf hy3
   obtain ⟨b3, o_3, q3, cs4, hp3, hq3, -, hr4, hc6⟩ := s1.at hy3
   obtain rfl := hr4
   refine zdxe hp3 hq3 he3 rfl ?_
   refine zdc 0 (hc6.below h.below) rfl ?_
   refine zd1 rfl ?_
   refine qbj (fun w4 hb => ?_)
   replace h := h.ext hb
   clear hb
   refine qr rfl hF ?_ ?_ <;> intro hF
   ·refine zSR (zp1 rfl (qb ?_))
    obtain rfl := qh hF; replace hF := hK2
    obtain rfl := qh hF; replace hF := hK1
    exact qy qc h hF ⟨rfl, trivial⟩
   exact zKER (zp3 rfl (qb (qA m2 [(0, _), (3, _), (4, _)] (Nat.lt_succ_self m2) ⟨rfl, rfl, rfl, trivial⟩ ⟨_, hF, rfl, h⟩)))
  refine qG rfl ?_
  obtain rfl := qh hF; replace hF := hK2
  exact qgr (qB (zp3 rfl (qb (qA m1 [(0, _), (3, _)] (Nat.lt_succ_self m1) ⟨rfl, rfl, trivial⟩ ⟨_, hF, rfl, h⟩))))
 refine qG rfl ?_
 obtain rfl := qh hF; replace hF := hK1
 exact zSR (zp1 rfl (qb (qy qc h hF ⟨rfl, trivial⟩)))

def qcW (x5 : (List Int)) (x7 : (List Int)) : Nat → Int → Option (Flow Bool Int)
 | 0, _ => none
 | n + 1, i5 =>
  bif decide (i5 < (x5.length : Int)) then
   (idx x7 i5).bind fun y11 =>
   bif (y11 != 1) then
    some (.ret false)
   else
    qcW x5 x7 n (W64 (i5 + 1))
  else
   some (.nxt i5)

def qbM (a_1 : qj) : Nat → (List Int) → Int → Option ((List Int) × Int)
 | 0, _, _ => none
 | n + 1, x7, i4 =>
  bif decide (i4 < (a_1.Ports.length : Int)) then
   (idx a_1.Ports i4).bind fun y7 =>
   bif (y7.Dir == 1) then
    (idx a_1.Ports i4).bind fun y8 =>
    (idx x7 y8.Net).bind fun y9 =>
    (idx x7 y8.Net).bind fun _ =>
    qbM a_1 n (setS x7 y8.Net (W64 (y9 + 1))) (W64 (i4 + 1))
   else
    qbM a_1 n x7 (W64 (i4 + 1))
  else
   some (x7, i4)

def qcg (a_1 : qj) : Nat → (List Int) → Int → Option ((List Int) × Int)
 | 0, _, _ => none
 | n + 1, x6, i3 =>
  bif decide (i3 < (a_1.Instances.length : Int)) then
   (idx a_1.Instances i3).bind fun y3 =>
   (idx y3.Nets (W64 ((y3.Nets.length : Int) - 1))).bind fun y4 =>
   (idx x6 y4).bind fun y5 =>
   (idx x6 y4).bind fun _ =>
   qcg a_1 n (setS x6 y4 (W64 (y5 + 1))) (W64 (i3 + 1))
  else
   some (x6, i3)

def qcl (a_1 : qj) : Nat → (List ByteArray) → Int → Option ((List ByteArray) × Int)
 | 0, _, _ => none
 | n + 1, x3, i2 =>
  bif decide (i2 < (a_1.Ports.length : Int)) then
   (idx a_1.Ports i2).bind fun y2 =>
   (appS x3 ([y2.Name] : List ByteArray)).bind fun x4 =>
   qcl a_1 n x4 (W64 (i2 + 1))
  else
   some (x3, i2)

def qcn (a_1 : qj) : Nat → (List ByteArray) → Int → Option ((List ByteArray) × Int)
 | 0, _, _ => none
 | n + 1, x1, i1 =>
  bif decide (i1 < (a_1.Instances.length : Int)) then
   (idx a_1.Instances i1).bind fun y1 =>
   (appS x1 ([y1.Name] : List ByteArray)).bind fun x2 =>
   qcn a_1 n x2 (W64 (i1 + 1))
  else
   some (x1, i1)

def qf1 (n : Nat) (a_0 : qv) (a_1 : qj) : Option Bool :=
 (
  (qgs n a_0).bind fun r4 =>
  bif (!r4) then
   some true
  else
   bif decide ((a_1.Instances.length : Int) > 14) then
    some true
   else
    bif decide ((a_1.Nets.length : Int) > 30) then
     some true
    else
     bif decide ((a_1.Ports.length : Int) > 8) then
      some true
     else
      (qgR n a_0 a_1).bind fun r5 =>
      some (!r5)).bind fun b1 =>
 bif b1 then
  some false
 else
  (qcn a_1 n ([] : List ByteArray) 0).bind fun o => match o with
  | (x1, _) =>
   (qcl a_1 n ([] : List ByteArray) 0).bind fun o => match o with
   | (x3, _) =>
    (
     (qff n x1).bind fun r1 =>
     bif (!r1) then
      some true
     else
      (qff n x3).bind fun r2 =>
      bif (!r2) then
       some true
      else
       (qff n a_1.Nets).bind fun r3 =>
       some (!r3)).bind fun b4 =>
    bif b4 then
     some false
    else
     (mkS (a_1.Nets.length : Int) (0 : Int)).bind fun x5 =>
     (qcg a_1 n x5 0).bind fun o => match o with
     | (x6, _) =>
      (qbM a_1 n x6 0).bind fun o => match o with
      | (x7, _) =>
       (qcW x5 x7 n 0).bind fun o => match o with
       | .ret r => some r
       | .nxt _ =>
        some true

theorem qjz {n : Nat} {w : World} {a_0 : qv} {a_1 : qj} {cs1 : List Value} (ha1 : GoT.R w (old w) a_0 cs1) {cs2 : List Value} (ha2 : GoT.R w (old w) a_1 cs2) {r : Bool} (hF : qf1 n a_0 a_1 = some r) : RetV Tryz.prog 136 [GoT.v qv cs1, GoT.v qj cs2] w r := by
 obtain ⟨p1, k1, rfl, s1⟩ := qbA ha1
 obtain ⟨p2, k2, p3, k3, p4, k4, rfl, s2, s3, s4⟩ := qaE ha2
 refine qe Tryz.func136 rfl (m := 153) rfl rfl (fun h => ?_)
 rw [qf1] at hF
 refine zSR (qN h rfl rfl ?_)
 intro w1 bb1 h
 refine qN h rfl rfl ?_
 intro w2 bb2 h
 refine zp1 rfl (zNSS ?_)
 obtain ⟨KF2, hKF2, o7, hF, hK7⟩ := bindE hF
 refine qek (fun e w' => ∃ (b1 : Bool), KF2 b1 = some r ∧ e = [(3, .pointer (some ⟨bb2, 0, none⟩)), (40, .bool b1)] ∧ SH w w' [Ch.box bb2 [.slice p2 a_1.Instances.length k2, .slice p3 a_1.Nets.length k3, .slice p4 a_1.Ports.length k4] 47]) ?_ ?_
 ·refine qB (zl 1 0 h rfl ?_)
  obtain ⟨r4, hr15, hF⟩ := qd hF
  refine qp r4 h call176 (qlk (h.old ha1) hr15) rfl rfl rfl rfl ?_
  intro w21 h
  refine zp2 rfl ?_
  by_cases hc23 : (!r4) = true
  ·replace hF := bifT hc23 hF
   refine qE hc23 (t := 17) rfl (zn4 rfl (zp2 rfl (zn4 rfl (zp1 rfl ?_))))
   refine zp1 rfl (zn4 rfl (zp2 rfl (zn4 rfl (zp1 rfl ?_))))
   refine qb ?_
   replace h := h.pick [0] rfl
   obtain rfl := qh hF
   exact qx [(3, _), (40, _)] ⟨rfl, rfl, trivial⟩ ⟨_, hK7, rfl, h⟩
  replace hc23 := zb hc23
  replace hF := bifF hc23 hF
  refine qD hc23 (t := 17) rfl (qa rfl (zp1 rfl (qa rfl (zl 0 0 h rfl (qa rfl (zp1 rfl (qa rfl (zp3 rfl ?_))))))))
  by_cases hc24 : (decide ((a_1.Instances.length : Int) > 14)) = true
  ·replace hF := bifT hc24 hF
   refine qE hc24 (t := 23) rfl (zn4 rfl (zp2 rfl (zn4 rfl (zp1 rfl ?_))))
   refine zp1 rfl (zn4 rfl (zp1 rfl (qb ?_)))
   replace h := h.pick [0] rfl
   obtain rfl := qh hF
   exact qx [(3, _), (40, _)] ⟨rfl, rfl, trivial⟩ ⟨_, hK7, rfl, h⟩
  replace hc24 := zb hc24
  replace hF := bifF hc24 hF
  refine qD hc24 (t := 23) rfl (qa rfl (zp1 rfl (qa rfl (zl 0 1 h rfl (qa rfl (zp1 rfl (qa rfl (zp3 rfl ?_))))))))
  by_cases hc25 : (decide ((a_1.Nets.length : Int) > 30)) = true
  ·replace hF := bifT hc25 hF
   refine qE hc25 (t := 29) rfl (zn4 rfl (zp2 rfl (zn4 rfl (zp1 rfl ?_))))
   refine qb ?_
   replace h := h.pick [0] rfl
   obtain rfl := qh hF
   exact qx [(3, _), (40, _)] ⟨rfl, rfl, trivial⟩ ⟨_, hK7, rfl, h⟩
  replace hc25 := zb hc25
  replace hF := bifF hc25 hF
  refine qD hc25 (t := 29) rfl (qa rfl (zp1 rfl (qa rfl (zl 0 2 h rfl (qa rfl (zp1 rfl (qa rfl (zp3 rfl ?_))))))))
  by_cases hc26 : (decide ((a_1.Ports.length : Int) > 8)) = true
  ·replace hF := bifT hc26 hF
   refine qE hc26 (t := 35) rfl (zn4 rfl (zp1 rfl (qb ?_)))
   replace h := h.pick [0] rfl
   obtain rfl := qh hF
   exact qx [(3, _), (40, _)] ⟨rfl, rfl, trivial⟩ ⟨_, hK7, rfl, h⟩
  replace hc26 := zb hc26
  replace hF := bifF hc26 hF
  refine qD hc26 (t := 35) rfl (qa rfl (zl 1 0 h rfl (qa rfl (zl 0 0 h rfl (qa rfl ?_)))))
  obtain ⟨r5, hr16, hF⟩ := qd hF
  refine qp r5 h call177 (qlP (h.old ha1) (h.old ha2) hr16) rfl rfl rfl rfl ?_
  intro w22 h
  refine qa rfl (zp2 rfl (qb ?_))
  replace h := h.pick [0] rfl
  obtain rfl := qh hF
  exact qx [(3, _), (40, _)] ⟨rfl, rfl, trivial⟩ ⟨_, hK7, rfl, h⟩
 rintro e7 w23 ⟨b1, hF, rfl, h⟩
 subst hKF2
 refine qr rfl hF ?_ ?_ <;> intro hF
 ·exact zSR (zp1 rfl (qb (qy qc h hF ⟨rfl, trivial⟩)))
 refine zKSR (qaz qc [] _ ([] : List ByteArray) h rfl rfl rfl rfl rfl rfl rfl rfl rfl trivial rfl ?_)
 intro w3 p5 S1 h
 refine zp1 rfl (zNSSR (zp1 rfl (qb ?_)))
 obtain ⟨o1, hF, hK1⟩ := qd hF
 refine qw (qP [(3, _), (5, _), (6, _)] ⟨rfl, rfl, rfl, trivial⟩ ?_)
 refine qH (fun m e w' => ∃ (S2 : Nat → Prop) (p6 : Option Addr) (ln1 : Nat) (k5 : Nat) (x1 : (List ByteArray)) (i1 : Int), qcn a_1 m x1 i1 = some o1 ∧ e = [(3, .pointer (some ⟨bb2, 0, none⟩)), (5, .slice p6 ln1 k5), (6, .int .i64 i1)] ∧ SH w w' [Ch.own S2 (x1 : List ByteArray) [.slice p6 ln1 k5], Ch.box bb2 [.slice p2 a_1.Instances.length k2, .slice p3 a_1.Nets.length k3, .slice p4 a_1.Ports.length k4] 47]) n ⟨_, _, _, _, _, _, hF, rfl, h⟩ ?_
 rintro m1 e1 w4 ⟨S2, p6, ln1, k5, x1, i1, hF, rfl, h⟩
 obtain rfl := (h.sl 0 rfl).2
 rcases m1 with _ | m1
 ·rw [qcn] at hF
  cases hF
 rw [qcn] at hF
 refine zSSR (zp2 rfl (zl 1 0 h rfl (zp2 rfl (qb ?_))))
 refine qr rfl hF ?_ ?_ <;> intro hF
 ·refine zKSBR (zp2 rfl (zl 1 0 h rfl (zp1 rfl ?_)))
  obtain ⟨y1, hy1, hF⟩ := qd hF
  have he1 := qf hy1
  obtain ⟨b2, o_1, q1, cs3, hp1, hq1, -, hr1, hc3⟩ := s2.at hy1
  obtain ⟨p7, k6, rfl, s5⟩ := qab hr1
  refine zxe hp1 hq1 he1 rfl (zp1 rfl (zc 0 (hc3.below h.below) rfl (qaz qc [.tmp 55] _ ([y1.Name] : List ByteArray) h rfl rfl rfl rfl rfl rfl rfl rfl rfl ⟨rfl, trivial⟩ rfl ?_)))
  intro w5 p8 S3 h
  obtain ⟨x2, hx1, hF⟩ := qd hF
  obtain ⟨g1, hx1⟩ := qa6 hx1
  refine qee qc 1 h rfl (h.sl 0 rfl).1 (h.sl 0 rfl).2 rfl rfl rfl rfl rfl rfl rfl rfl rfl g1 hx1 rfl ?_
  intro w6 p9 k7 S4 h
  refine zp1 rfl (zNER (zp3 rfl (qb ?_)))
  replace h := h.pick [1, 2] rfl
  exact qA m1 [(3, _), (5, _), (6, _)] (Nat.lt_succ_self m1) ⟨rfl, rfl, rfl, trivial⟩ ⟨_, _, _, _, _, _, hF, rfl, h⟩
 refine qG rfl ?_
 obtain rfl := qh hF; replace hF := hK1
 refine zSR (qaz qc [] _ ([] : List ByteArray) h rfl rfl rfl rfl rfl rfl rfl rfl rfl trivial rfl ?_)
 intro w7 p10 S5 h
 refine zp1 rfl (zNSSR (zp1 rfl (qb ?_)))
 obtain ⟨o2, hF, hK2⟩ := qd hF
 refine qw (qP [(3, _), (5, _), (7, _), (8, _)] ⟨rfl, rfl, rfl, rfl, trivial⟩ ?_)
 refine qH (fun m e w' => ∃ (S6 : Nat → Prop) (p11 : Option Addr) (ln2 : Nat) (k8 : Nat) (x3 : (List ByteArray)) (i2 : Int), qcl a_1 m x3 i2 = some o2 ∧ e = [(3, .pointer (some ⟨bb2, 0, none⟩)), (5, .slice p6 x1.length k5), (7, .slice p11 ln2 k8), (8, .int .i64 i2)] ∧ SH w w' [Ch.own S6 (x3 : List ByteArray) [.slice p11 ln2 k8], Ch.own S2 (x1 : List ByteArray) [.slice p6 x1.length k5], Ch.box bb2 [.slice p2 a_1.Instances.length k2, .slice p3 a_1.Nets.length k3, .slice p4 a_1.Ports.length k4] 47]) n ⟨_, _, _, _, _, _, hF, rfl, h⟩ ?_
 rintro m2 e2 w8 ⟨S6, p11, ln2, k8, x3, i2, hF, rfl, h⟩
 obtain rfl := (h.sl 0 rfl).2
 rcases m2 with _ | m2
 ·rw [qcl] at hF
  cases hF
 rw [qcl] at hF
 refine zSSR (zp2 rfl (zl 2 2 h rfl (zp2 rfl (qb ?_))))
 refine qr rfl hF ?_ ?_ <;> intro hF
 ·refine zKSBR (zp2 rfl (zl 2 2 h rfl (zp1 rfl ?_)))
  obtain ⟨y2, hy2, hF⟩ := qd hF
  have he2 := qf hy2
  obtain ⟨b3, o_2, q2, cs4, hp2, hq2, -, hr2, hc5⟩ := s4.at hy2
  obtain rfl := qa8 hr2
  refine zxe hp2 hq2 he2 rfl (zp1 rfl (zc 0 (hc5.below h.below) rfl (qaz qc [.tmp 72] _ ([y2.Name] : List ByteArray) h rfl rfl rfl rfl rfl rfl rfl rfl rfl ⟨rfl, trivial⟩ rfl ?_)))
  intro w9 p12 S7 h
  obtain ⟨x4, hx2, hF⟩ := qd hF
  obtain ⟨g2, hx2⟩ := qa6 hx2
  refine qee qc 1 h rfl (h.sl 0 rfl).1 (h.sl 0 rfl).2 rfl rfl rfl rfl rfl rfl rfl rfl rfl g2 hx2 rfl ?_
  intro w10 p13 k9 S8 h
  refine zp1 rfl (zNER (zp3 rfl (qb ?_)))
  replace h := h.pick [1, 2, 3] rfl
  exact qA m2 [(3, _), (5, _), (7, _), (8, _)] (Nat.lt_succ_self m2) ⟨rfl, rfl, rfl, rfl, trivial⟩ ⟨_, _, _, _, _, _, hF, rfl, h⟩
 refine qG rfl ?_
 obtain rfl := qh hF; replace hF := hK2
 refine zSS ?_
 obtain ⟨KF1, hKF1, o6, hF, hK6⟩ := bindE hF
 refine qek (fun e w' => ∃ (b4 : Bool), KF1 b4 = some r ∧ e = [(3, .pointer (some ⟨bb2, 0, none⟩)), (88, .bool b4)] ∧ SH w w' [Ch.box bb2 [.slice p2 a_1.Instances.length k2, .slice p3 a_1.Nets.length k3, .slice p4 a_1.Ports.length k4] 47]) ?_ ?_
 ·refine qB (zp1 rfl ?_)
  obtain ⟨r1, hr12, hF⟩ := qd hF
  refine qp r1 h call178 (qhX (h.own 1 rfl) hr12) rfl rfl rfl rfl ?_
  intro w17 h
  refine zp2 rfl ?_
  by_cases hc21 : (!r1) = true
  ·replace hF := bifT hc21 hF
   refine qE hc21 (t := 78) rfl (zn3 rfl (zp2 rfl (zn4 rfl (zp1 rfl (qb ?_)))))
   replace h := h.pick [2] rfl
   obtain rfl := qh hF
   exact qx [(3, _), (88, _)] ⟨rfl, rfl, trivial⟩ ⟨_, hK6, rfl, h⟩
  replace hc21 := zb hc21
  replace hF := bifF hc21 hF
  refine qD hc21 (t := 78) rfl (qa rfl (zp1 rfl (qa rfl ?_)))
  obtain ⟨r2, hr13, hF⟩ := qd hF
  refine qp r2 h call178 (qhX (h.own 0 rfl) hr13) rfl rfl rfl rfl ?_
  intro w18 h
  refine qa rfl (zp3 rfl ?_)
  by_cases hc22 : (!r2) = true
  ·replace hF := bifT hc22 hF
   refine qE hc22 (t := 83) rfl (zn4 rfl (zp1 rfl (qb ?_)))
   replace h := h.pick [2] rfl
   obtain rfl := qh hF
   exact qx [(3, _), (88, _)] ⟨rfl, rfl, trivial⟩ ⟨_, hK6, rfl, h⟩
  replace hc22 := zb hc22
  replace hF := bifF hc22 hF
  refine qD hc22 (t := 83) rfl (qa rfl (zp1 rfl (qa rfl (zl 2 1 h rfl (qa rfl ?_)))))
  obtain ⟨r3, hr14, hF⟩ := qd hF
  refine qp r3 h call178 (qhX ⟨_, _, rfl, (h.oldS s3)⟩ hr14) rfl rfl rfl rfl ?_
  intro w19 h
  refine qa rfl (zp2 rfl (qb ?_))
  replace h := h.pick [2] rfl
  obtain rfl := qh hF
  exact qx [(3, _), (88, _)] ⟨rfl, rfl, trivial⟩ ⟨_, hK6, rfl, h⟩
 rintro e6 w20 ⟨b4, hF, rfl, h⟩
 subst hKF1
 refine qr rfl hF ?_ ?_ <;> intro hF
 ·exact zSR (zp1 rfl (qb (qy qc h hF ⟨rfl, trivial⟩)))
 refine zKSR (zp1 rfl (zl 0 1 h rfl (zp1 rfl ?_)))
 obtain ⟨x5, hx3, hF⟩ := qd hF
 obtain ⟨g3, g4, hx3⟩ := qd2 hx3
 refine qe8 qc Int h rfl rfl rfl rfl rfl rfl rfl rfl rfl g3 g4 hx3 rfl ?_
 intro w11 S9 p14 h
 refine zp1 rfl (zNSSR (zp1 rfl (qb ?_)))
 obtain ⟨o3, hF, hK3⟩ := qd hF
 refine qw (qP [(3, _), (9, _), (10, _)] ⟨rfl, rfl, rfl, trivial⟩ ?_)
 refine qH (fun m e w' => ∃ (x6 : (List Int)) (i3 : Int), qcg a_1 m x6 i3 = some o3 ∧ e = [(3, .pointer (some ⟨bb2, 0, none⟩)), (9, .slice p14 x5.length x5.length), (10, .int .i64 i3)] ∧ SH w w' [Ch.own S9 (x6 : List Int) [.slice p14 x5.length x5.length], Ch.box bb2 [.slice p2 a_1.Instances.length k2, .slice p3 a_1.Nets.length k3, .slice p4 a_1.Ports.length k4] 47]) n ⟨_, _, hF, rfl, h⟩ ?_
 rintro m3 e3 w12 ⟨x6, i3, hF, rfl, h⟩
 rcases m3 with _ | m3
 ·rw [qcg] at hF
  cases hF
 rw [qcg] at hF
 refine zSSR (zp2 rfl (zl 1 0 h rfl (zp2 rfl (qb ?_))))
 refine qr rfl hF ?_ ?_ <;> intro hF
 ·refine zKSBSR (zp1 rfl (zl 1 0 h rfl (zp1 rfl ?_)))
  obtain ⟨y3, hy3, hF⟩ := qd hF
  have he3 := qf hy3
  obtain ⟨b5, o_3, q3, cs5, hp3, hq3, -, hr3, hc8⟩ := s2.at hy3
  obtain ⟨p15, k10, rfl, s6⟩ := qab hr3
  refine zxe hp3 hq3 he3 rfl (zp1 rfl (zc 2 (hc8.below h.below) rfl (zp1 rfl (qb (qB (zp5 rfl ?_))))))
  obtain ⟨y4, hy4, hF⟩ := qd hF
  have he4 := qf hy4
  obtain ⟨b6, o_4, q4, cs6, hp4, hq4, -, hr4, hc9⟩ := s6.at hy4
  obtain rfl := hr4
  refine zxe hp4 hq4 he4 rfl (zc 0 (hc9.below h.below) rfl ?_)
  obtain ⟨y5, hy5, hF⟩ := qd hF
  have he5 := qf hy5
  obtain ⟨b7, o_5, q5, cs7, hp5, hq5, -, hr5, hc10⟩ := (h.sl 0 rfl).1.at hy5
  obtain rfl := hr5
  refine zx hp5 hq5 ⟨he5.1, qae he5.2.1 (h.sl 0 rfl).2⟩ rfl (zc 0 hc10 rfl (zp1 rfl ?_))
  obtain ⟨y6, hy6, hF⟩ := qd hF
  have he6 := qf hy6
  obtain ⟨b8, o_6, q6, cs8, hp6, hq6, -, hr6, hc11⟩ := (h.sl 0 rfl).1.at hy6
  obtain rfl := hr6
  refine zx hp6 hq6 ⟨he6.1, qae he6.2.1 (h.sl 0 rfl).2⟩ rfl (qdj qc 0 0 (W64 (y5 + 1)) h rfl hy6 hp6 hq6 rfl hc11 rfl rfl rfl rfl rfl rfl rfl ?_)
  intro w13 h
  exact zNER (zp3 rfl (qb (qA m3 [(3, _), (9, _), (10, _)] (Nat.lt_succ_self m3) ⟨rfl, rfl, rfl, trivial⟩ ⟨_, _, hF, rfl, h⟩)))
 refine qG rfl ?_
 obtain rfl := qh hF; replace hF := hK3
 refine zSSR (zp1 rfl (qb ?_))
 obtain ⟨o4, hF, hK4⟩ := qd hF
 refine qw (qP [(3, _), (9, _), (12, _)] ⟨rfl, rfl, rfl, trivial⟩ ?_)
 refine qH (fun m e w' => ∃ (x7 : (List Int)) (i4 : Int), qbM a_1 m x7 i4 = some o4 ∧ e = [(3, .pointer (some ⟨bb2, 0, none⟩)), (9, .slice p14 x5.length x5.length), (12, .int .i64 i4)] ∧ SH w w' [Ch.own S9 (x7 : List Int) [.slice p14 x5.length x5.length], Ch.box bb2 [.slice p2 a_1.Instances.length k2, .slice p3 a_1.Nets.length k3, .slice p4 a_1.Ports.length k4] 47]) n ⟨_, _, hF, rfl, h⟩ ?_
 rintro m4 e4 w14 ⟨x7, i4, hF, rfl, h⟩
 rcases m4 with _ | m4
 ·rw [qbM] at hF
  cases hF
 rw [qbM] at hF
 refine zSSR (zp2 rfl (zl 1 2 h rfl (zp2 rfl (qb ?_))))
 refine qr rfl hF ?_ ?_ <;> intro hF
 ·refine zKSBSR (zp1 rfl (zl 1 2 h rfl (zp1 rfl ?_)))
  obtain ⟨y7, hy7, hF⟩ := qd hF
  have he7 := qf hy7
  obtain ⟨b9, o_7, q7, cs9, hp7, hq7, -, hr7, hc13⟩ := s4.at hy7
  obtain rfl := qa8 hr7
  refine zxe hp7 hq7 he7 rfl (zp1 rfl (zc 1 (hc13.below h.below) rfl (zp1 rfl (qb ?_))))
  refine qr rfl hF ?_ ?_ <;> intro hF
  ·refine qB (zp2 rfl (zl 1 2 h rfl (zp1 rfl ?_)))
   obtain ⟨y8, hy8, hF⟩ := qd hF
   have he8 := qf hy8
   obtain ⟨b10, o_8, q8, cs10, hp8, hq8, -, hr8, hc15⟩ := s4.at hy8
   obtain rfl := qa8 hr8
   refine zxe hp8 hq8 he8 rfl (zp1 rfl (zc 2 (hc15.below h.below) rfl ?_))
   obtain ⟨y9, hy9, hF⟩ := qd hF
   have he9 := qf hy9
   obtain ⟨b11, o_9, q9, cs11, hp9, hq9, -, hr9, hc16⟩ := (h.sl 0 rfl).1.at hy9
   obtain rfl := hr9
   refine zx hp9 hq9 ⟨he9.1, qae he9.2.1 (h.sl 0 rfl).2⟩ rfl (zc 0 hc16 rfl (zp1 rfl ?_))
   obtain ⟨y10, hy10, hF⟩ := qd hF
   have he10 := qf hy10
   obtain ⟨b12, o_10, q10, cs12, hp10, hq10, -, hr10, hc17⟩ := (h.sl 0 rfl).1.at hy10
   obtain rfl := hr10
   refine zx hp10 hq10 ⟨he10.1, qae he10.2.1 (h.sl 0 rfl).2⟩ rfl (qdj qc 0 0 (W64 (y9 + 1)) h rfl hy10 hp10 hq10 rfl hc17 rfl rfl rfl rfl rfl rfl rfl ?_)
   intro w15 h
   exact zNER (zp3 rfl (qb (qA m4 [(3, _), (9, _), (12, _)] (Nat.lt_succ_self m4) ⟨rfl, rfl, rfl, trivial⟩ ⟨_, _, hF, rfl, h⟩)))
  exact zKER (zp3 rfl (qb (qA m4 [(3, _), (9, _), (12, _)] (Nat.lt_succ_self m4) ⟨rfl, rfl, rfl, trivial⟩ ⟨_, _, hF, rfl, h⟩)))
 refine qG rfl ?_
 obtain rfl := qh hF; replace hF := hK4
 refine zSSR (zp1 rfl (qb ?_))
 obtain ⟨o5, hF, hK5⟩ := qd hF
 refine qw ?_
 replace h := h.pick [0] rfl
 refine qP [(9, _), (13, _)] ⟨rfl, rfl, trivial⟩ ?_
 refine qH (fun m e w' => ∃ (i5 : Int), qcW x5 x7 m i5 = some o5 ∧ e = [(9, .slice p14 x5.length x5.length), (13, .int .i64 i5)] ∧ SH w w' [Ch.own S9 (x7 : List Int) [.slice p14 x5.length x5.length]]) n ⟨_, hF, rfl, h⟩ ?_
 rintro m5 e5 w16 ⟨i5, hF, rfl, h⟩
 rcases m5 with _ | m5
 ·rw [qcW] at hF
  cases hF
 rw [qcW] at hF
 refine zSSR (zp4 rfl (qb ?_))
 refine qr rfl hF ?_ ?_ <;> intro hF
 ·refine zKSBSR (zp2 rfl ?_)
  obtain ⟨y11, hy11, hF⟩ := qd hF
  have he11 := qf hy11
  obtain ⟨b13, o_11, q11, cs13, hp11, hq11, -, hr11, hc19⟩ := (h.sl 0 rfl).1.at hy11
  obtain rfl := hr11
  refine zx hp11 hq11 ⟨he11.1, qae he11.2.1 (h.sl 0 rfl).2⟩ rfl (zc 0 hc19 rfl (zp1 rfl (qb ?_)))
  refine qr rfl hF ?_ ?_ <;> intro hF
  ·refine zSR (zp1 rfl (qb ?_))
   obtain rfl := qh hF; replace hF := hK5
   exact qy qc h hF ⟨rfl, trivial⟩
  exact zKER (zp3 rfl (qb (qA m5 [(9, _), (13, _)] (Nat.lt_succ_self m5) ⟨rfl, rfl, trivial⟩ ⟨_, hF, rfl, h⟩)))
 refine qG rfl ?_
 obtain rfl := qh hF; replace hF := hK5
 exact zSR (zp1 rfl (qb (qy qc h hF ⟨rfl, trivial⟩)))

def qd5 (a_0 : qS) : Nat → Int → Option (Flow Bool Int)
 | 0, _ => none
 | n + 1, i2 =>
  bif decide (i2 < (a_0.Sink.length : Int)) then
   (idx a_0.Sink i2).bind fun y7 =>
   (qaD n y7 0 (W64 ((a_0.Parent.length : Int) - 1))).bind fun r5 =>
   bif (!r5) then
    some (.ret false)
   else
    qd5 a_0 n (W64 (i2 + 1))
  else
   some (.nxt i2)

def qb4 (a_0 : qS) : Nat → Int → Option (Flow Bool Int)
 | 0, _ => none
 | n + 1, i1 =>
  bif decide (i1 < (a_0.Parent.length : Int)) then
   (
    (idx a_0.Cap i1).bind fun y5 =>
    (qaD n y5 0 500).bind fun r3 =>
    bif (!r3) then
     some true
    else
     (idx a_0.Res i1).bind fun y6 =>
     (qaD n y6 0 1000).bind fun r4 =>
     some (!r4)).bind fun b2 =>
   bif b2 then
    some (.ret false)
   else
    bif (i1 == 0) then
     (idx a_0.Parent i1).bind fun y1 =>
     bif (y1 != (-1)) then
      some (.ret false)
     else
      (idx a_0.Res i1).bind fun y2 =>
      bif (y2 != 0) then
       some (.ret false)
      else
       bif decide (i1 > 0) then
        (idx a_0.Parent i1).bind fun y3 =>
        (qaD n y3 0 (W64 (i1 - 1))).bind fun r1 =>
        bif (!r1) then
         some (.ret false)
        else
         qb4 a_0 n (W64 (i1 + 1))
       else
        qb4 a_0 n (W64 (i1 + 1))
    else
     bif decide (i1 > 0) then
      (idx a_0.Parent i1).bind fun y4 =>
      (qaD n y4 0 (W64 (i1 - 1))).bind fun r2 =>
      bif (!r2) then
       some (.ret false)
      else
       qb4 a_0 n (W64 (i1 + 1))
     else
      qb4 a_0 n (W64 (i1 + 1))
  else
   some (.nxt i1)

def qik (n : Nat) (a_0 : qS) (a_1 : Int) : Option Bool :=
 (
  bif decide ((a_0.Parent.length : Int) < 1) then
   some true
  else
   bif decide ((a_0.Parent.length : Int) > 8) then
    some true
   else
    bif ((a_0.Res.length : Int) != (a_0.Parent.length : Int)) then
     some true
    else
     bif ((a_0.Cap.length : Int) != (a_0.Parent.length : Int)) then
      some true
     else
      some ((a_0.Sink.length : Int) != a_1)).bind fun b1 =>
 bif b1 then
  some false
 else
  (qb4 a_0 n 0).bind fun o => match o with
  | .ret r => some r
  | .nxt _ =>
   (qd5 a_0 n 0).bind fun o => match o with
   | .ret r => some r
   | .nxt _ =>
    some true

theorem qng {n : Nat} {w : World} {a_0 : qS} {a_1 : Int} {cs1 : List Value} (ha1 : GoT.R w (old w) a_0 cs1) {r : Bool} (hF : qik n a_0 a_1 = some r) : RetV Tryz.prog 137 [GoT.v qS cs1, .int .i64 a_1] w r := by
 obtain ⟨p1, k1, p2, k2, p3, k3, p4, k4, rfl, s1, s2, s3, s4⟩ := qbJ ha1
 refine qe Tryz.func137 rfl (m := 108) rfl rfl (fun h => ?_)
 rw [qik] at hF
 refine zSR (qN h rfl rfl ?_)
 intro w1 bb1 h
 refine zp1 rfl (zNSR (zp1 rfl (zl 0 0 h rfl (zp2 rfl (zNSS ?_)))))
 obtain ⟨KF2, hKF2, o4, hF, hK4⟩ := bindE hF
 refine qek (fun e w' => ∃ (b1 : Bool), KF2 b1 = some r ∧ e = [(2, .pointer (some ⟨bb1, 0, none⟩)), (5, .int .i64 (a_0.Parent.length : Int)), (37, .bool b1)] ∧ SH w w' [Ch.box bb1 [.slice p1 a_0.Parent.length k1, .slice p2 a_0.Res.length k2, .slice p3 a_0.Cap.length k3, .slice p4 a_0.Sink.length k4] 130]) ?_ ?_
 ·refine qB (zp3 rfl ?_)
  by_cases hc21 : (decide ((a_0.Parent.length : Int) < 1)) = true
  ·replace hF := bifT hc21 hF
   refine qE hc21 (t := 13) rfl (zn2 rfl (zp2 rfl (zn5 rfl (zp2 rfl ?_))))
   refine zn5 rfl (zp2 rfl (zn5 rfl ?_))
   refine zp1 rfl (qb ?_)
   obtain rfl := qh hF
   exact qx [(2, _), (5, _), (37, _)] ⟨rfl, rfl, rfl, trivial⟩ ⟨_, hK4, rfl, h⟩
  replace hc21 := zb hc21
  replace hF := bifF hc21 hF
  refine qD hc21 (t := 13) rfl (qa rfl (zp1 rfl (qa rfl (zp3 rfl ?_))))
  by_cases hc22 : (decide ((a_0.Parent.length : Int) > 8)) = true
  ·replace hF := bifT hc22 hF
   refine qE hc22 (t := 17) rfl (zn5 rfl (zp2 rfl (zn4 rfl ?_)))
   refine zn1 rfl (zp2 rfl (zn5 rfl (zp1 rfl (qb ?_))))
   obtain rfl := qh hF
   exact qx [(2, _), (5, _), (37, _)] ⟨rfl, rfl, rfl, trivial⟩ ⟨_, hK4, rfl, h⟩
  replace hc22 := zb hc22
  replace hF := bifF hc22 hF
  refine qD hc22 (t := 17) rfl (qa rfl (zp1 rfl (qa rfl (zl 0 1 h rfl (qa rfl (zp1 rfl (qa rfl (zp1 rfl (qa rfl (zp2 rfl ?_))))))))))
  refine zp1 rfl ?_
  by_cases hc23 : ((a_0.Res.length : Int) != (a_0.Parent.length : Int)) = true
  ·replace hF := bifT hc23 hF
   refine qE hc23 (t := 24) rfl (zn5 rfl (zp2 rfl (zn4 rfl ?_)))
   refine zn1 rfl (zp1 rfl (qb ?_))
   obtain rfl := qh hF
   exact qx [(2, _), (5, _), (37, _)] ⟨rfl, rfl, rfl, trivial⟩ ⟨_, hK4, rfl, h⟩
  replace hc23 := zb hc23
  replace hF := bifF hc23 hF
  refine qD hc23 (t := 24) rfl (qa rfl (zp1 rfl (qa rfl (zl 0 2 h rfl (qa rfl (zp1 rfl (qa rfl (zp1 rfl (qa rfl (zp2 rfl ?_))))))))))
  refine zp1 rfl ?_
  by_cases hc24 : ((a_0.Cap.length : Int) != (a_0.Parent.length : Int)) = true
  ·replace hF := bifT hc24 hF
   refine qE hc24 (t := 31) rfl (zn5 rfl (zp1 rfl (qb ?_)))
   obtain rfl := qh hF
   exact qx [(2, _), (5, _), (37, _)] ⟨rfl, rfl, rfl, trivial⟩ ⟨_, hK4, rfl, h⟩
  replace hc24 := zb hc24
  replace hF := bifF hc24 hF
  refine qD hc24 (t := 31) rfl (qa rfl (zp1 rfl (qa rfl (zl 0 3 h rfl (qa rfl (zp1 rfl (qa rfl (zp1 rfl (qa rfl (zp2 rfl ?_))))))))))
  refine qb ?_
  obtain rfl := qh hF
  exact qx [(2, _), (5, _), (37, _)] ⟨rfl, rfl, rfl, trivial⟩ ⟨_, hK4, rfl, h⟩
 rintro e4 w10 ⟨b1, hF, rfl, h⟩
 subst hKF2
 refine qr rfl hF ?_ ?_ <;> intro hF
 ·exact zSR (zp1 rfl (qb (qy qc h hF ⟨rfl, trivial⟩)))
 refine zKSSR (zp1 rfl (qb ?_))
 obtain ⟨o1, hF, hK1⟩ := qd hF
 refine qw (qP [(2, _), (5, _), (6, _)] ⟨rfl, rfl, rfl, trivial⟩ ?_)
 refine qH (fun m e w' => ∃ (i1 : Int), qb4 a_0 m i1 = some o1 ∧ e = [(2, .pointer (some ⟨bb1, 0, none⟩)), (5, .int .i64 (a_0.Parent.length : Int)), (6, .int .i64 i1)] ∧ SH w w' [Ch.box bb1 [.slice p1 a_0.Parent.length k1, .slice p2 a_0.Res.length k2, .slice p3 a_0.Cap.length k3, .slice p4 a_0.Sink.length k4] 130]) n ⟨_, hF, rfl, h⟩ ?_
 rintro m1 e1 w2 ⟨i1, hF, rfl, h⟩
 rcases m1 with _ | m1
 ·rw [qb4] at hF
  cases hF
 rw [qb4] at hF
 refine zSSR (zp3 rfl (qb ?_))
 refine qr rfl hF ?_ ?_ <;> intro hF
 ·refine zKSB (zSS ?_)
  obtain ⟨KF1, hKF1, o2, hF, hK2⟩ := bindE hF
  refine qek (fun e w' => ∃ (b2 : Bool), KF1 b2 = some o1 ∧ e = [(2, .pointer (some ⟨bb1, 0, none⟩)), (5, .int .i64 (a_0.Parent.length : Int)), (6, .int .i64 i1), (58, .bool b2)] ∧ SH w w' [Ch.box bb1 [.slice p1 a_0.Parent.length k1, .slice p2 a_0.Res.length k2, .slice p3 a_0.Cap.length k3, .slice p4 a_0.Sink.length k4] 130]) ?_ ?_
  ·refine qB (zp1 rfl (zl 0 2 h rfl (zp1 rfl ?_)))
   obtain ⟨y5, hy5, hF⟩ := qd hF
   have he5 := qf hy5
   obtain ⟨b7, o_5, q5, cs6, hp5, hq5, -, hr7, hc15⟩ := s3.at hy5
   obtain rfl := hr7
   refine zxe hp5 hq5 he5 rfl (zc 0 (hc15.below h.below) rfl ?_)
   obtain ⟨r3, hr8, hF⟩ := qd hF
   refine qp r3 h call77 (qal hr8) rfl rfl rfl rfl ?_
   intro w5 h
   refine zp2 rfl ?_
   by_cases hc16 : (!r3) = true
   ·replace hF := bifT hc16 hF
    refine qE hc16 (t := 50) rfl (zn5 rfl (zn2 rfl (zp1 rfl (qb ?_))))
    obtain rfl := qh hF
    exact qx [(2, _), (5, _), (6, _), (58, _)] ⟨rfl, rfl, rfl, rfl, trivial⟩ ⟨_, hK2, rfl, h⟩
   replace hc16 := zb hc16
   replace hF := bifF hc16 hF
   refine qD hc16 (t := 50) rfl (qa rfl (zp1 rfl (qa rfl (zl 0 1 h rfl (qa rfl (zp1 rfl (qa rfl ?_)))))))
   obtain ⟨y6, hy6, hF⟩ := qd hF
   have he6 := qf hy6
   obtain ⟨b8, o_6, q6, cs7, hp6, hq6, -, hr9, hc17⟩ := s2.at hy6
   obtain rfl := hr9
   refine zxe hp6 hq6 he6 rfl (qa rfl (zc 0 (hc17.below h.below) rfl (qa rfl ?_)))
   obtain ⟨r4, hr10, hF⟩ := qd hF
   refine qp r4 h call77 (qal hr10) rfl rfl rfl rfl ?_
   intro w6 h
   refine qa rfl (zp2 rfl (qb ?_))
   obtain rfl := qh hF
   exact qx [(2, _), (5, _), (6, _), (58, _)] ⟨rfl, rfl, rfl, rfl, trivial⟩ ⟨_, hK2, rfl, h⟩
  rintro e2 w7 ⟨b2, hF, rfl, h⟩
  subst hKF1
  refine qr rfl hF ?_ ?_ <;> intro hF
  ·refine zSR (zp1 rfl (qb ?_))
   obtain rfl := qh hF; replace hF := hK1
   exact qy qc h hF ⟨rfl, trivial⟩
  refine zKSR (zp3 rfl ?_)
  by_cases hc4 : (i1 == 0) = true
  ·replace hF := bifT hc4 hF
   refine qE hc4 (t := 61) rfl (qa rfl (zp1 rfl (qa rfl (zl 0 0 h rfl (qa rfl (zp1 rfl (qa rfl ?_)))))))
   obtain ⟨y1, hy1, hF⟩ := qd hF
   have he1 := qf hy1
   obtain ⟨b3, o_1, q1, cs2, hp1, hq1, -, hr1, hc5⟩ := s1.at hy1
   obtain rfl := hr1
   refine zxe hp1 hq1 he1 rfl (qa rfl (zc 0 (hc5.below h.below) rfl (qa rfl (zp1 rfl (qa rfl (zp1 rfl ?_))))))
   by_cases hc6 : (y1 != (-1)) = true
   ·replace hF := bifT hc6 hF
    refine qE hc6 (t := 68) rfl (zn5 rfl (zn1 rfl (qa rfl (zp3 rfl (zn1 rfl ?_)))))
    refine zn5 rfl (zn5 rfl (zn2 rfl ?_))
    refine zp1 rfl (qb (qe1 rfl rfl (zSR (zp1 rfl (qb ?_)))))
    obtain rfl := qh hF; replace hF := hK1
    exact qy qc h hF ⟨rfl, trivial⟩
   replace hc6 := zb hc6
   replace hF := bifF hc6 hF
   refine qD hc6 (t := 68) rfl (qa rfl (zp1 rfl (qa rfl (zl 0 1 h rfl (qa rfl (zp1 rfl (qa rfl ?_)))))))
   obtain ⟨y2, hy2, hF⟩ := qd hF
   have he2 := qf hy2
   obtain ⟨b4, o_2, q2, cs3, hp2, hq2, -, hr2, hc7⟩ := s2.at hy2
   obtain rfl := hr2
   refine zxe hp2 hq2 he2 rfl (qa rfl (zc 0 (hc7.below h.below) rfl (qa rfl (zp1 rfl (qa rfl (zp3 rfl ?_))))))
   by_cases hc8 : (y2 != 0) = true
   ·replace hF := bifT hc8 hF
    refine qE hc8 (t := 77) rfl (zn5 rfl (zn5 rfl (zn1 rfl ?_)))
    refine zn2 rfl (zp1 rfl (qb (qe1 rfl rfl (zSR (zp1 rfl (qb ?_))))))
    obtain rfl := qh hF; replace hF := hK1
    exact qy qc h hF ⟨rfl, trivial⟩
   replace hc8 := zb hc8
   replace hF := bifF hc8 hF
   refine qD hc8 (t := 77) rfl (qa rfl (zp1 rfl (qa rfl (zp1 rfl (qa rfl (zp1 rfl ?_))))))
   by_cases hc9 : (decide (i1 > 0)) = true
   ·replace hF := bifT hc9 hF
    refine qE hc9 (t := 80) rfl (qa rfl (zp1 rfl (qa rfl (zl 0 0 h rfl (qa rfl (zp1 rfl (qa rfl ?_)))))))
    obtain ⟨y3, hy3, hF⟩ := qd hF
    have he3 := qf hy3
    obtain ⟨b5, o_3, q3, cs4, hp3, hq3, -, hr3, hc10⟩ := s1.at hy3
    obtain rfl := hr3
    refine zxe hp3 hq3 he3 rfl (qa rfl (zc 0 (hc10.below h.below) rfl (qa rfl (zp1 rfl (qa rfl (zp1 rfl (qa rfl ?_)))))))
    obtain ⟨r1, hr4, hF⟩ := qd hF
    refine qp r1 h call77 (qal hr4) rfl rfl rfl rfl ?_
    intro w3 h
    refine qa rfl (zp1 rfl (qa rfl (zp2 rfl (qb ?_))))
    refine qr rfl hF ?_ ?_ <;> intro hF
    ·refine zSR (zp1 rfl (qb ?_))
     obtain rfl := qh hF; replace hF := hK1
     exact qy qc h hF ⟨rfl, trivial⟩
    exact zKER (zp3 rfl (qb (qA m1 [(2, _), (5, _), (6, _)] (Nat.lt_succ_self m1) ⟨rfl, rfl, rfl, trivial⟩ ⟨_, hF, rfl, h⟩)))
   replace hc9 := zb hc9
   replace hF := bifF hc9 hF
   refine qD hc9 (t := 80) rfl (zn5 rfl (zn4 rfl (qa rfl (zp1 rfl ?_))))
   exact zp1 rfl (qb (qdI rfl rfl (zKER (zp3 rfl (qb (qA m1 [(2, _), (5, _), (6, _)] (Nat.lt_succ_self m1) ⟨rfl, rfl, rfl, trivial⟩ ⟨_, hF, rfl, h⟩))))))
  replace hc4 := zb hc4
  replace hF := bifF hc4 hF
  refine qD hc4 (t := 61) rfl (zn5 rfl (zn5 rfl (zn1 rfl ?_)))
  refine zn3 rfl (zp2 rfl (qa rfl (zp1 rfl (qa rfl (zp1 rfl (qa rfl (zp1 rfl ?_)))))))
  by_cases hc12 : (decide (i1 > 0)) = true
  ·replace hF := bifT hc12 hF
   refine qE hc12 (t := 80) rfl (qa rfl (zp1 rfl (qa rfl (zl 0 0 h rfl (qa rfl (zp1 rfl (qa rfl ?_)))))))
   obtain ⟨y4, hy4, hF⟩ := qd hF
   have he4 := qf hy4
   obtain ⟨b6, o_4, q4, cs5, hp4, hq4, -, hr5, hc13⟩ := s1.at hy4
   obtain rfl := hr5
   refine zxe hp4 hq4 he4 rfl (qa rfl (zc 0 (hc13.below h.below) rfl (qa rfl (zp1 rfl (qa rfl (zp1 rfl (qa rfl ?_)))))))
   obtain ⟨r2, hr6, hF⟩ := qd hF
   refine qp r2 h call77 (qal hr6) rfl rfl rfl rfl ?_
   intro w4 h
   refine qa rfl (zp1 rfl (qa rfl (zp2 rfl (qb ?_))))
   refine qr rfl hF ?_ ?_ <;> intro hF
   ·refine zSR (zp1 rfl (qb ?_))
    obtain rfl := qh hF; replace hF := hK1
    exact qy qc h hF ⟨rfl, trivial⟩
   exact zKER (zp3 rfl (qb (qA m1 [(2, _), (5, _), (6, _)] (Nat.lt_succ_self m1) ⟨rfl, rfl, rfl, trivial⟩ ⟨_, hF, rfl, h⟩)))
  replace hc12 := zb hc12
  replace hF := bifF hc12 hF
  refine qD hc12 (t := 80) rfl (zn5 rfl (zn4 rfl (qa rfl (zp1 rfl ?_))))
  exact zp1 rfl (qb (qdI rfl rfl (zKER (zp3 rfl (qb (qA m1 [(2, _), (5, _), (6, _)] (Nat.lt_succ_self m1) ⟨rfl, rfl, rfl, trivial⟩ ⟨_, hF, rfl, h⟩))))))
 refine qG rfl ?_
 obtain rfl := qh hF; replace hF := hK1
 refine zSSR (zp1 rfl (qb ?_))
 obtain ⟨o3, hF, hK3⟩ := qd hF
 refine qw (qP [(2, _), (5, _), (7, _)] ⟨rfl, rfl, rfl, trivial⟩ ?_)
 refine qH (fun m e w' => ∃ (i2 : Int), qd5 a_0 m i2 = some o3 ∧ e = [(2, .pointer (some ⟨bb1, 0, none⟩)), (5, .int .i64 (a_0.Parent.length : Int)), (7, .int .i64 i2)] ∧ SH w w' [Ch.box bb1 [.slice p1 a_0.Parent.length k1, .slice p2 a_0.Res.length k2, .slice p3 a_0.Cap.length k3, .slice p4 a_0.Sink.length k4] 130]) n ⟨_, hF, rfl, h⟩ ?_
 rintro m2 e3 w8 ⟨i2, hF, rfl, h⟩
 rcases m2 with _ | m2
 ·rw [qd5] at hF
  cases hF
 rw [qd5] at hF
 refine zSSR (zp2 rfl (zl 0 3 h rfl (zp2 rfl (qb ?_))))
 refine qr rfl hF ?_ ?_ <;> intro hF
 ·refine zKSBSR (zp1 rfl (zl 0 3 h rfl (zp1 rfl ?_)))
  obtain ⟨y7, hy7, hF⟩ := qd hF
  have he7 := qf hy7
  obtain ⟨b9, o_7, q7, cs8, hp7, hq7, -, hr11, hc19⟩ := s4.at hy7
  obtain rfl := hr11
  refine zxe hp7 hq7 he7 rfl (zc 0 (hc19.below h.below) rfl (zp2 rfl ?_))
  obtain ⟨r5, hr12, hF⟩ := qd hF
  refine qp r5 h call77 (qal hr12) rfl rfl rfl rfl ?_
  intro w9 h
  refine zp1 rfl (qb ?_)
  refine qr rfl hF ?_ ?_ <;> intro hF
  ·refine zSR (zp1 rfl (qb ?_))
   obtain rfl := qh hF; replace hF := hK3
   exact qy qc h hF ⟨rfl, trivial⟩
  exact zKER (zp3 rfl (qb (qA m2 [(2, _), (5, _), (7, _)] (Nat.lt_succ_self m2) ⟨rfl, rfl, rfl, trivial⟩ ⟨_, hF, rfl, h⟩)))
 refine qG rfl ?_
 obtain rfl := qh hF; replace hF := hK3
 exact zSR (zp1 rfl (qb (qy qc h hF ⟨rfl, trivial⟩)))

def qb1 (i1 : Int) (y1 : qm) : Nat → (List Tl05Place) → Int → Option ((List Tl05Place) × Int)
 | 0, _, _ => none
 | n + 1, x2, i2 =>
  bif decide (i2 < (y1.Nets.length : Int)) then
   (idx y1.Nets i2).bind fun y2 =>
   (appS x2 ([(⟨i1, i2, y2, (i2 == (W64 ((y1.Nets.length : Int) - 1)))⟩ : Tl05Place)] : List Tl05Place)).bind fun x3 =>
   qb1 i1 y1 n x3 (W64 (i2 + 1))
  else
   some (x2, i2)

def qb2 (a_0 : qj) : Nat → (List Tl05Place) → Int → Option ((List Tl05Place) × Int)
 | 0, _, _ => none
 | n + 1, x4, i3 =>
  bif decide (i3 < (a_0.Ports.length : Int)) then
   (idx a_0.Ports i3).bind fun y3 =>
   (idx a_0.Ports i3).bind fun y4 =>
   (appS x4 ([(⟨(-1), i3, y3.Net, (y4.Dir == 1)⟩ : Tl05Place)] : List Tl05Place)).bind fun x5 =>
   qb2 a_0 n x5 (W64 (i3 + 1))
  else
   some (x4, i3)

def qbY (a_0 : qj) : Nat → (List Tl05Place) → Int → Option ((List Tl05Place) × Int)
 | 0, _, _ => none
 | n + 1, x1, i1 =>
  bif decide (i1 < (a_0.Instances.length : Int)) then
   (idx a_0.Instances i1).bind fun y1 =>
   (qb1 i1 y1 n x1 0).bind fun o => match o with
   | (x2, _) =>
    qbY a_0 n x2 (W64 (i1 + 1))
  else
   some (x1, i1)

def qc8 (n : Nat) (a_0 : qj) : Option (List Tl05Place) :=
 (qbY a_0 n ([] : List Tl05Place) 0).bind fun o => match o with
 | (x1, _) =>
  (qb2 a_0 n x1 0).bind fun o => match o with
  | (x4, _) =>
   some x4

theorem qe3 {n : Nat} {w : World} {a_0 : qj} {cs1 : List Value} (ha1 : GoT.R w (old w) a_0 cs1) {r : (List Tl05Place)} (hF : qc8 n a_0 = some r) : RetV Tryz.prog 124 [GoT.v qj cs1] w r := by
 obtain ⟨p1, k1, p2, k2, p3, k3, rfl, s1, s2, s3⟩ := qaE ha1
 refine qe Tryz.func124 rfl (m := 69) rfl rfl (fun h => ?_)
 rw [qc8] at hF
 refine zSR (qN h rfl rfl ?_)
 intro w1 bb1 h
 refine zp1 rfl (zNSR (qaz qc [] _ ([] : List Tl05Place) h rfl rfl rfl rfl rfl rfl rfl rfl rfl trivial rfl ?_))
 intro w2 p4 S1 h
 refine zp1 rfl (zNSSR (zp1 rfl (qb ?_)))
 obtain ⟨o1, hF, hK1⟩ := qd hF
 refine qw (qP [(1, _), (3, _), (4, _)] ⟨rfl, rfl, rfl, trivial⟩ ?_)
 refine qH (fun m e w' => ∃ (S2 : Nat → Prop) (p5 : Option Addr) (ln1 : Nat) (k4 : Nat) (x1 : (List Tl05Place)) (i1 : Int), qbY a_0 m x1 i1 = some o1 ∧ e = [(1, .pointer (some ⟨bb1, 0, none⟩)), (3, .slice p5 ln1 k4), (4, .int .i64 i1)] ∧ SH w w' [Ch.own S2 (x1 : List Tl05Place) [.slice p5 ln1 k4], Ch.box bb1 [.slice p1 a_0.Instances.length k1, .slice p2 a_0.Nets.length k2, .slice p3 a_0.Ports.length k3] 47]) n ⟨_, _, _, _, _, _, hF, rfl, h⟩ ?_
 rintro m1 e1 w3 ⟨S2, p5, ln1, k4, x1, i1, hF, rfl, h⟩
 obtain rfl := (h.sl 0 rfl).2
 rcases m1 with _ | m1
 ·rw [qbY] at hF
  cases hF
 rw [qbY] at hF
 refine zSSR (zp2 rfl (zl 1 0 h rfl (zp2 rfl (qb ?_))))
 refine qr rfl hF ?_ ?_ <;> intro hF
 ·refine zKSBSR (zp1 rfl (zl 1 0 h rfl (zp1 rfl ?_)))
  obtain ⟨y1, hy1, hF⟩ := qd hF
  have he1 := qf hy1
  obtain ⟨b1, o_1, q1, cs2, hp1, hq1, -, hr1, hc2⟩ := s1.at hy1
  obtain ⟨p6, k5, rfl, s4⟩ := qab hr1
  refine zxe hp1 hq1 he1 rfl (zp1 rfl (zc 2 (hc2.below h.below) rfl (zp1 rfl (zNSR (zp1 rfl (qb ?_))))))
  obtain ⟨o2, hF, hK2⟩ := qd hF
  refine qw (qP [(1, _), (3, _), (4, _), (5, _), (6, _)] ⟨rfl, rfl, rfl, rfl, rfl, trivial⟩ ?_)
  refine qH (fun m e w' => ∃ (S3 : Nat → Prop) (p7 : Option Addr) (ln2 : Nat) (k6 : Nat) (x2 : (List Tl05Place)) (i2 : Int), qb1 i1 y1 m x2 i2 = some o2 ∧ e = [(1, .pointer (some ⟨bb1, 0, none⟩)), (3, .slice p7 ln2 k6), (4, .int .i64 i1), (5, .slice p6 y1.Nets.length k5), (6, .int .i64 i2)] ∧ SH w w' [Ch.own S3 (x2 : List Tl05Place) [.slice p7 ln2 k6], Ch.box bb1 [.slice p1 a_0.Instances.length k1, .slice p2 a_0.Nets.length k2, .slice p3 a_0.Ports.length k3] 47]) m1 ⟨_, _, _, _, _, _, hF, rfl, h⟩ ?_
  rintro m2 e2 w4 ⟨S3, p7, ln2, k6, x2, i2, hF, rfl, h⟩
  obtain rfl := (h.sl 0 rfl).2
  rcases m2 with _ | m2
  ·rw [qb1] at hF
   cases hF
  rw [qb1] at hF
  refine zSSR (zp4 rfl (qb ?_))
  refine qr rfl hF ?_ ?_ <;> intro hF
  ·refine zKSBR (zp5 rfl ?_)
   obtain ⟨y2, hy2, hF⟩ := qd hF
   have he2 := qf hy2
   obtain ⟨b2, o_2, q2, cs3, hp2, hq2, -, hr2, hc4⟩ := s4.at hy2
   obtain rfl := hr2
   refine zxe hp2 hq2 he2 rfl (zc 0 (hc4.below h.below) rfl (zp5 rfl (r_v (qhq qc [0, 1, 2, 3] [.tmp 29, .tmp 30, .tmp 34, .tmp 39] rfl rfl rfl rfl rfl rfl rfl rfl) rfl (qaz qc [.tmp 40] _ ([(⟨i1, i2, y2, (i2 == (W64 ((y1.Nets.length : Int) - 1)))⟩ : Tl05Place)] : List Tl05Place) h rfl rfl rfl rfl rfl rfl rfl rfl rfl ⟨(qgV (⟨i1, i2, y2, (i2 == (W64 ((y1.Nets.length : Int) - 1)))⟩ : Tl05Place)), trivial⟩ rfl ?_))))
   intro w5 p8 S4 h
   obtain ⟨x3, hx1, hF⟩ := qd hF
   obtain ⟨g1, hx1⟩ := qa6 hx1
   refine qee qc 1 h rfl (h.sl 0 rfl).1 (h.sl 0 rfl).2 rfl rfl rfl rfl rfl rfl rfl rfl rfl g1 hx1 rfl ?_
   intro w6 p9 k7 S5 h
   refine zp1 rfl (zNER (zp3 rfl (qb ?_)))
   replace h := h.pick [1, 2] rfl
   exact qA m2 [(1, _), (3, _), (4, _), (5, _), (6, _)] (Nat.lt_succ_self m2) ⟨rfl, rfl, rfl, rfl, rfl, trivial⟩ ⟨_, _, _, _, _, _, hF, rfl, h⟩
  refine qG rfl ?_
  obtain rfl := qh hF; replace hF := hK2
  exact qgr (qB (zp3 rfl (qb (qA m1 [(1, _), (3, _), (4, _)] (Nat.lt_succ_self m1) ⟨rfl, rfl, rfl, trivial⟩ ⟨_, _, _, _, _, _, hF, rfl, h⟩))))
 refine qG rfl ?_
 obtain rfl := qh hF; replace hF := hK1
 refine zSSR (zp1 rfl (qb ?_))
 obtain ⟨o3, hF, hK3⟩ := qd hF
 refine qw (qP [(1, _), (3, _), (7, _)] ⟨rfl, rfl, rfl, trivial⟩ ?_)
 refine qH (fun m e w' => ∃ (S6 : Nat → Prop) (p10 : Option Addr) (ln3 : Nat) (k8 : Nat) (x4 : (List Tl05Place)) (i3 : Int), qb2 a_0 m x4 i3 = some o3 ∧ e = [(1, .pointer (some ⟨bb1, 0, none⟩)), (3, .slice p10 ln3 k8), (7, .int .i64 i3)] ∧ SH w w' [Ch.own S6 (x4 : List Tl05Place) [.slice p10 ln3 k8], Ch.box bb1 [.slice p1 a_0.Instances.length k1, .slice p2 a_0.Nets.length k2, .slice p3 a_0.Ports.length k3] 47]) n ⟨_, _, _, _, _, _, hF, rfl, h⟩ ?_
 rintro m3 e3 w7 ⟨S6, p10, ln3, k8, x4, i3, hF, rfl, h⟩
 obtain rfl := (h.sl 0 rfl).2
 rcases m3 with _ | m3
 ·rw [qb2] at hF
  cases hF
 rw [qb2] at hF
 refine zSSR (zp2 rfl (zl 1 2 h rfl (zp2 rfl (qb ?_))))
 refine qr rfl hF ?_ ?_ <;> intro hF
 ·refine zKSB ?_
  refine qge [] (fun w' => SH w w' [Ch.box bb1 [.slice p1 a_0.Instances.length k1, .slice p2 a_0.Nets.length k2, .slice p3 a_0.Ports.length k3] 47]) rfl 19 rfl #[ff, ff, ff, ff, ff, ff, ff, ff, ff, ff, ff, ff, ff, ff, ff, ff, ff, ff, ff] (by kernel_rfl) (fun w8 hb => ?_)
  replace h := h.ext hb
  clear hb
  refine ql 0 rfl #[tt, ff, ff, ff, ff, ff, ff, ff, ff, ff, ff, ff, ff, ff, ff, ff, ff, ff, ff] (by kernel_rfl) (by kernel_rfl) (fun w' hw => v_p qc rfl w') (h.pick [1] rfl) rfl ?_
  refine ql 1 rfl #[tt, tt, ff, ff, ff, ff, ff, ff, ff, ff, ff, ff, ff, ff, ff, ff, ff, ff, ff] (by kernel_rfl) (by kernel_rfl) (fun w' hw => v_p qc rfl w') (h.pick [1] rfl) rfl ?_
  refine ql 2 rfl #[tt, tt, tt, ff, ff, ff, ff, ff, ff, ff, ff, ff, ff, ff, ff, ff, ff, ff, ff] (by kernel_rfl) (by kernel_rfl) (fun w' hw => v_p qc rfl w') (h.pick [1] rfl) rfl ?_
  refine ql 3 rfl #[tt, tt, tt, tt, ff, ff, ff, ff, ff, ff, ff, ff, ff, ff, ff, ff, ff, ff, ff] (by kernel_rfl) (by kernel_rfl) (fun w' hw => qbI qc (hw.box 0 rfl) (j := 2) rfl rfl rfl) (h.pick [1] rfl) rfl ?_
  refine ql 4 rfl #[tt, tt, tt, tt, tt, ff, ff, ff, ff, ff, ff, ff, ff, ff, ff, ff, ff, ff, ff] (by kernel_rfl) (by kernel_rfl) (fun w' hw => v_p qc rfl w') (h.pick [1] rfl) rfl ?_
  obtain ⟨y3, hy3, hF⟩ := qd hF
  have he3 := qf hy3
  obtain ⟨b3, o_3, q3, cs4, hp3, hq3, -, hr3, hc6⟩ := s3.at hy3
  obtain rfl := qa8 hr3
  refine ql 5 rfl #[tt, tt, tt, tt, tt, tt, ff, ff, ff, ff, ff, ff, ff, ff, ff, ff, ff, ff, ff] (by kernel_rfl) (by kernel_rfl) (fun w' hw => qf6 qc hp3 hq3 ⟨he3.1, he3.2.1⟩ rfl rfl rfl rfl rfl rfl) (h.pick [1] rfl) rfl ?_
  refine ql 6 rfl #[tt, tt, tt, tt, tt, tt, tt, ff, ff, ff, ff, ff, ff, ff, ff, ff, ff, ff, ff] (by kernel_rfl) (by kernel_rfl) (fun w' hw => v_p qc rfl w') (h.pick [1] rfl) rfl ?_
  refine ql 7 rfl #[tt, tt, tt, tt, tt, tt, tt, tt, ff, ff, ff, ff, ff, ff, ff, ff, ff, ff, ff] (by kernel_rfl) (by kernel_rfl) (fun w' hw => qbI qc (hc6.below hw.below) (j := 2) rfl rfl rfl) (h.pick [1] rfl) rfl ?_
  refine ql 8 rfl #[tt, tt, tt, tt, tt, tt, tt, tt, tt, ff, ff, ff, ff, ff, ff, ff, ff, ff, ff] (by kernel_rfl) (by kernel_rfl) (fun w' hw => v_p qc rfl w') (h.pick [1] rfl) rfl ?_
  refine ql 9 rfl #[tt, tt, tt, tt, tt, tt, tt, tt, tt, tt, ff, ff, ff, ff, ff, ff, ff, ff, ff] (by kernel_rfl) (by kernel_rfl) (fun w' hw => qbI qc (hw.box 0 rfl) (j := 2) rfl rfl rfl) (h.pick [1] rfl) rfl ?_
  refine ql 10 rfl #[tt, tt, tt, tt, tt, tt, tt, tt, tt, tt, tt, ff, ff, ff, ff, ff, ff, ff, ff] (by kernel_rfl) (by kernel_rfl) (fun w' hw => v_p qc rfl w') (h.pick [1] rfl) rfl ?_
  obtain ⟨y4, hy4, hF⟩ := qd hF
  have he4 := qf hy4
  obtain ⟨b4, o_4, q4, cs5, hp4, hq4, -, hr4, hc7⟩ := s3.at hy4
  obtain rfl := qa8 hr4
  refine ql 11 rfl #[tt, tt, tt, tt, tt, tt, tt, tt, tt, tt, tt, tt, ff, ff, ff, ff, ff, ff, ff] (by kernel_rfl) (by kernel_rfl) (fun w' hw => qf6 qc hp4 hq4 ⟨he4.1, he4.2.1⟩ rfl rfl rfl rfl rfl rfl) (h.pick [1] rfl) rfl ?_
  refine ql 12 rfl #[tt, tt, tt, tt, tt, tt, tt, tt, tt, tt, tt, tt, tt, ff, ff, ff, ff, ff, ff] (by kernel_rfl) (by kernel_rfl) (fun w' hw => v_p qc rfl w') (h.pick [1] rfl) rfl ?_
  refine ql 13 rfl #[tt, tt, tt, tt, tt, tt, tt, tt, tt, tt, tt, tt, tt, tt, ff, ff, ff, ff, ff] (by kernel_rfl) (by kernel_rfl) (fun w' hw => qbI qc (hc7.below hw.below) (j := 1) rfl rfl rfl) (h.pick [1] rfl) rfl ?_
  refine ql 14 rfl #[tt, tt, tt, tt, tt, tt, tt, tt, tt, tt, tt, tt, tt, tt, tt, ff, ff, ff, ff] (by kernel_rfl) (by kernel_rfl) (fun w' hw => v_p qc rfl w') (h.pick [1] rfl) rfl ?_
  refine ql 15 rfl #[tt, tt, tt, tt, tt, tt, tt, tt, tt, tt, tt, tt, tt, tt, tt, tt, ff, ff, ff] (by kernel_rfl) (by kernel_rfl) (fun w' hw => qhq qc [0, 1, 2, 3] [.const (.int .i64 (-1)), .tmp 51, .tmp 57, .tmp 64] rfl rfl rfl rfl rfl rfl rfl rfl) (h.pick [1] rfl) rfl ?_
  refine qaI 16 rfl #[tt, tt, tt, tt, tt, tt, tt, tt, tt, tt, tt, tt, tt, tt, tt, tt, tt, ff, ff] (by kernel_rfl) (by kernel_rfl) ?_
  refine qaz qc [.tmp 65] _ ([(⟨(-1), i3, y3.Net, (y4.Dir == 1)⟩ : Tl05Place)] : List Tl05Place) h rfl rfl rfl rfl rfl rfl rfl rfl rfl ⟨(qgV (⟨(-1), i3, y3.Net, (y4.Dir == 1)⟩ : Tl05Place)), trivial⟩ rfl ?_
  intro w9 p11 S7 h
  refine qaw (fun _ => (h.pick [2] rfl)) ?_
  refine qaI 17 rfl #[tt, tt, tt, tt, tt, tt, tt, tt, tt, tt, tt, tt, tt, tt, tt, tt, tt, tt, ff] (by kernel_rfl) (by kernel_rfl) ?_
  obtain ⟨x5, hx2, hF⟩ := qd hF
  obtain ⟨g2, hx2⟩ := qa6 hx2
  refine qee qc 1 h rfl (h.sl 0 rfl).1 (h.sl 0 rfl).2 rfl rfl rfl rfl rfl rfl rfl rfl rfl g2 hx2 rfl ?_
  intro w10 p12 k9 S8 h
  refine qaw (fun _ => (h.pick [2] rfl)) ?_
  refine ql 18 rfl #[tt, tt, tt, tt, tt, tt, tt, tt, tt, tt, tt, tt, tt, tt, tt, tt, tt, tt, tt] (by kernel_rfl) (by kernel_rfl) (fun w' hw => v_p qc rfl w') (h.pick [2] rfl) rfl ?_
  refine qd4 (by kernel_rfl) ?_
  refine qgr (qB (zp3 rfl (qb ?_)))
  replace h := h.pick [1, 2] rfl
  exact qA m3 [(1, _), (3, _), (7, _)] (Nat.lt_succ_self m3) ⟨rfl, rfl, rfl, trivial⟩ ⟨_, _, _, _, _, _, hF, rfl, h⟩
 refine qG rfl ?_
 obtain rfl := qh hF; replace hF := hK3
 refine zSR (zp2 rfl (qb ?_))
 obtain rfl := qh hF
 exact qaj qc (ρ := (List Tl05Place)) [GoT.v (List Tl05Place) [.slice p10 x4.length k8]] h ⟨rfl, trivial⟩ (PV.done h (qap (qad 0 h rfl)))

def qbN (net : Int) (r1 : (List Tl05Place)) : Nat → (List Int) → Int → Option ((List Int) × Int)
 | 0, _, _ => none
 | n + 1, x1, i1 =>
  bif decide (i1 < (r1.length : Int)) then
   (
    (idx r1 i1).bind fun y1 =>
    bif (y1.net == net) then
     (idx r1 i1).bind fun y2 =>
     some (!y2.drives)
    else
     some false).bind fun b1 =>
   bif b1 then
    (appS x1 ([i1] : List Int)).bind fun x2 =>
    qbN net r1 n x2 (W64 (i1 + 1))
   else
    qbN net r1 n x1 (W64 (i1 + 1))
  else
   some (x1, i1)

def qf4 (n : Nat) (d : qj) (net : Int) : Option (List Int) :=
 (qc8 n d).bind fun r1 =>
 (qbN net r1 n ([] : List Int) 0).bind fun o => match o with
 | (x1, _) =>
  some x1

theorem qjw {n : Nat} {w : World} {d : qj} {net : Int} {cs1 : List Value} (ha1 : GoT.R w (old w) d cs1) {r : (List Int)} (hF : qf4 n d net = some r) : RetV Tryz.prog 138 [GoT.v qj cs1, .int .i64 net] w r := by
 obtain ⟨p1, k1, p2, k2, p3, k3, rfl, s1, s2, s3⟩ := qaE ha1
 refine qe Tryz.func138 rfl (m := 37) rfl rfl (fun h => ?_)
 rw [qf4] at hF
 refine zSR (qN h rfl rfl ?_)
 intro w1 bb1 h
 refine zp1 rfl (zNSR (qaz qc [] _ ([] : List Int) h rfl rfl rfl rfl rfl rfl rfl rfl rfl trivial rfl ?_))
 intro w2 p4 S1 h
 refine zp1 rfl (zNSR (zl 1 0 h rfl ?_))
 obtain ⟨r1, hr1, hF⟩ := qd hF
 refine qai r1 h call124 (qe3 (h.old ha1) hr1) rfl rfl rfl rfl ?_
 intro w3 S2 p5 k4 h
 refine zp1 rfl (zNSSR (zp1 rfl (qb ?_)))
 obtain ⟨o1, hF, hK1⟩ := qd hF
 refine qw ?_
 replace h := h.pick [0, 1] rfl
 refine qP [(1, _), (5, _), (6, _), (7, _)] ⟨rfl, rfl, rfl, rfl, trivial⟩ ?_
 refine qH (fun m e w' => ∃ (S3 : Nat → Prop) (p6 : Option Addr) (ln1 : Nat) (k5 : Nat) (x1 : (List Int)) (i1 : Int), qbN net r1 m x1 i1 = some o1 ∧ e = [(1, .int .i64 net), (5, .slice p6 ln1 k5), (6, .slice p5 r1.length k4), (7, .int .i64 i1)] ∧ SH w w' [Ch.own S2 (r1 : List Tl05Place) [.slice p5 r1.length k4], Ch.own S3 (x1 : List Int) [.slice p6 ln1 k5]]) n ⟨_, _, _, _, _, _, hF, rfl, h⟩ ?_
 rintro m1 e1 w4 ⟨S3, p6, ln1, k5, x1, i1, hF, rfl, h⟩
 obtain rfl := (h.sl 1 rfl).2
 rcases m1 with _ | m1
 ·rw [qbN] at hF
  cases hF
 rw [qbN] at hF
 refine zSSR (zp4 rfl (qb ?_))
 refine qr rfl hF ?_ ?_ <;> intro hF
 ·refine zKSB (qbq ?_)
  obtain ⟨KF1, hKF1, o2, hF, hK2⟩ := bindE hF
  refine qek (fun e w' => ∃ (b1 : Bool), KF1 b1 = some o1 ∧ e = [(1, .int .i64 net), (5, .slice p6 x1.length k5), (6, .slice p5 r1.length k4), (7, .int .i64 i1), (31, .bool b1)] ∧ SH w w' [Ch.own S2 (r1 : List Tl05Place) [.slice p5 r1.length k4], Ch.own S3 (x1 : List Int) [.slice p6 x1.length k5]]) ?_ ?_
  ·refine qB (zp2 rfl ?_)
   obtain ⟨y1, hy1, hF⟩ := qd hF
   have he1 := qf hy1
   obtain ⟨b2, o_1, q1, cs2, hp1, hq1, -, hr2, hc3⟩ := (h.sl 0 rfl).1.at hy1
   obtain rfl := qcE hr2
   refine zx hp1 hq1 ⟨he1.1, qae he1.2.1 (h.sl 0 rfl).2⟩ rfl (zp1 rfl (zc 2 hc3 rfl (zp3 rfl ?_)))
   by_cases hc4 : (y1.net == net) = true
   ·replace hF := bifT hc4 hF
    refine qE hc4 (t := 24) rfl (qa rfl (zp1 rfl (qa rfl (zp1 rfl (qa rfl ?_)))))
    obtain ⟨y2, hy2, hF⟩ := qd hF
    have he2 := qf hy2
    obtain ⟨b3, o_2, q2, cs3, hp2, hq2, -, hr3, hc5⟩ := (h.sl 0 rfl).1.at hy2
    obtain rfl := qcE hr3
    refine zx hp2 hq2 ⟨he2.1, qae he2.2.1 (h.sl 0 rfl).2⟩ rfl (qa rfl (zp1 rfl (qa rfl (zc 3 hc5 rfl (qa rfl (zp2 rfl (qb ?_)))))))
    obtain rfl := qh hF
    exact qx [(1, _), (5, _), (6, _), (7, _), (31, _)] ⟨rfl, rfl, rfl, rfl, rfl, trivial⟩ ⟨_, hK2, rfl, h⟩
   replace hc4 := zb hc4
   replace hF := bifF hc4 hF
   refine qD hc4 (t := 24) rfl (zn5 rfl (zn1 rfl (zp1 rfl (qb ?_))))
   obtain rfl := qh hF
   exact qx [(1, _), (5, _), (6, _), (7, _), (31, _)] ⟨rfl, rfl, rfl, rfl, rfl, trivial⟩ ⟨_, hK2, rfl, h⟩
  rintro e2 w7 ⟨b1, hF, rfl, h⟩
  subst hKF1
  refine qr rfl hF ?_ ?_ <;> intro hF
  ·refine qB (zp2 rfl (qaz qc [.tmp 33] _ ([i1] : List Int) h rfl rfl rfl rfl rfl rfl rfl rfl rfl ⟨rfl, trivial⟩ rfl ?_))
   intro w5 p7 S4 h
   obtain ⟨x2, hx1, hF⟩ := qd hF
   obtain ⟨g1, hx1⟩ := qa6 hx1
   refine qee qc 2 h rfl (h.sl 0 rfl).1 (h.sl 0 rfl).2 rfl rfl rfl rfl rfl rfl rfl rfl rfl g1 hx1 rfl ?_
   intro w6 p8 k6 S5 h
   refine zp1 rfl (zNER (zp3 rfl (qb ?_)))
   replace h := h.pick [1, 2] rfl
   exact qA m1 [(1, _), (5, _), (6, _), (7, _)] (Nat.lt_succ_self m1) ⟨rfl, rfl, rfl, rfl, trivial⟩ ⟨_, _, _, _, _, _, hF, rfl, h⟩
  exact zKER (zp3 rfl (qb (qA m1 [(1, _), (5, _), (6, _), (7, _)] (Nat.lt_succ_self m1) ⟨rfl, rfl, rfl, rfl, trivial⟩ ⟨_, _, _, _, _, _, hF, rfl, h⟩)))
 refine qG rfl ?_
 obtain rfl := qh hF; replace hF := hK1
 refine zSR (zp2 rfl (qb ?_))
 obtain rfl := qh hF
 exact qaj qc (ρ := (List Int)) [GoT.v (List Int) [.slice p6 x1.length k5]] h ⟨rfl, trivial⟩ (PV.done h (qap (qad 1 h rfl)))

def qdn (b : qz) : Nat → Int → Option (Flow Bool Int)
 | 0, _ => none
 | n + 1, i1 =>
  bif decide (i1 < (b.Wires.length : Int)) then
   (idx b.Wires i1).bind fun y1 =>
   (qf4 n (⟨b.Design.Instances, b.Design.Nets, b.Design.Ports⟩ : qj) i1).bind fun r1 =>
   (qik n y1 (r1.length : Int)).bind fun r2 =>
   bif (!r2) then
    some (.ret false)
   else
    qdn b n (W64 (i1 + 1))
  else
   some (.nxt i1)

def qfF (n : Nat) (b : qz) : Option Bool :=
 (
  (qf1 n (⟨b.Library.Cells⟩ : qv) (⟨b.Design.Instances, b.Design.Nets, b.Design.Ports⟩ : qj)).bind fun r3 =>
  bif (!r3) then
   some true
  else
   some ((b.Wires.length : Int) != (b.Design.Nets.length : Int))).bind fun b1 =>
 bif b1 then
  some false
 else
  (qdn b n 0).bind fun o => match o with
  | .ret r => some r
  | .nxt _ =>
   some true

theorem qiw {n : Nat} {w : World} {b : qz} {cs1 : List Value} (ha1 : GoT.R w (old w) b cs1) {r : Bool} (hF : qfF n b = some r) : RetV Tryz.prog 104 [GoT.v qz cs1] w r := by
 obtain ⟨p1, k1, p2, k2, p3, k3, p4, k4, p5, k5, rfl, s1, s2, s3, s4, s5⟩ := qaq ha1
 refine qe Tryz.func104 rfl (m := 39) rfl rfl (fun h => ?_)
 rw [qfF] at hF
 refine zSR (qN h rfl rfl ?_)
 intro w1 bb1 h
 refine zp1 rfl (zNSS ?_)
 obtain ⟨KF1, hKF1, o2, hF, hK2⟩ := bindE hF
 refine qek (fun e w' => ∃ (b1 : Bool), KF1 b1 = some r ∧ e = [(1, .pointer (some ⟨bb1, 0, none⟩)), (19, .bool b1)] ∧ SH w w' [Ch.box bb1 [.slice p1 b.Library.Cells.length k1, .slice p2 b.Design.Instances.length k2, .slice p3 b.Design.Nets.length k3, .slice p4 b.Design.Ports.length k4, .slice p5 b.Wires.length k5] 50]) ?_ ?_
 ·refine qB (zp1 rfl (zl 0 0 h rfl (zp1 rfl (zl 0 1 h rfl ?_))))
  obtain ⟨r3, hr4, hF⟩ := qd hF
  refine qp r3 h call136 (qjz (qdK (⟨b.Library.Cells⟩ : qv) (h.oldS s1)) (qbd (⟨b.Design.Instances, b.Design.Nets, b.Design.Ports⟩ : qj) (h.oldS s2) (h.oldS s3) (h.oldS s4)) hr4) rfl rfl rfl rfl ?_
  intro w6 h
  refine zp2 rfl ?_
  by_cases hc5 : (!r3) = true
  ·replace hF := bifT hc5 hF
   refine qE hc5 (t := 10) rfl (zn5 rfl (zn3 rfl (zp1 rfl (qb ?_))))
   obtain rfl := qh hF
   exact qx [(1, _), (19, _)] ⟨rfl, rfl, trivial⟩ ⟨_, hK2, rfl, h⟩
  replace hc5 := zb hc5
  replace hF := bifF hc5 hF
  refine qD hc5 (t := 10) rfl (qa rfl (zp1 rfl (qa rfl (zl 0 4 h rfl (qa rfl (zp1 rfl (qa rfl (zp1 rfl (qa rfl (zp1 rfl (qa rfl ?_)))))))))))
  refine zl 0 2 h rfl (qa rfl (zp1 rfl (qa rfl (zp2 rfl (qb ?_)))))
  obtain rfl := qh hF
  exact qx [(1, _), (19, _)] ⟨rfl, rfl, trivial⟩ ⟨_, hK2, rfl, h⟩
 rintro e2 w7 ⟨b1, hF, rfl, h⟩
 subst hKF1
 refine qr rfl hF ?_ ?_ <;> intro hF
 ·exact zSR (zp1 rfl (qb (qy qc h hF ⟨rfl, trivial⟩)))
 refine zKSSR (zp1 rfl (qb ?_))
 obtain ⟨o1, hF, hK1⟩ := qd hF
 refine qw (qP [(1, _), (3, _)] ⟨rfl, rfl, trivial⟩ ?_)
 refine qH (fun m e w' => ∃ (i1 : Int), qdn b m i1 = some o1 ∧ e = [(1, .pointer (some ⟨bb1, 0, none⟩)), (3, .int .i64 i1)] ∧ SH w w' [Ch.box bb1 [.slice p1 b.Library.Cells.length k1, .slice p2 b.Design.Instances.length k2, .slice p3 b.Design.Nets.length k3, .slice p4 b.Design.Ports.length k4, .slice p5 b.Wires.length k5] 50]) n ⟨_, hF, rfl, h⟩ ?_
 rintro m1 e1 w2 ⟨i1, hF, rfl, h⟩
 rcases m1 with _ | m1
 ·rw [qdn] at hF
  cases hF
 rw [qdn] at hF
 refine zSSR (zp2 rfl (zl 0 4 h rfl (zp2 rfl (qb ?_))))
 refine qr rfl hF ?_ ?_ <;> intro hF
 ·refine zKSB (qbq ?_)
  refine qge [] (fun w' => SH w w' [Ch.box bb1 [.slice p1 b.Library.Cells.length k1, .slice p2 b.Design.Instances.length k2, .slice p3 b.Design.Nets.length k3, .slice p4 b.Design.Ports.length k4, .slice p5 b.Wires.length k5] 50]) rfl 12 rfl #[ff, ff, ff, ff, ff, ff, ff, ff, ff, ff, ff, ff] (by kernel_rfl) (fun w3 hb => ?_)
  replace h := h.ext hb
  clear hb
  refine ql 0 rfl #[tt, ff, ff, ff, ff, ff, ff, ff, ff, ff, ff, ff] (by kernel_rfl) (by kernel_rfl) (fun w' hw => v_p qc rfl w') (h.pick [0] rfl) rfl ?_
  refine ql 1 rfl #[tt, tt, ff, ff, ff, ff, ff, ff, ff, ff, ff, ff] (by kernel_rfl) (by kernel_rfl) (fun w' hw => qbI qc (hw.box 0 rfl) (j := 4) rfl rfl rfl) (h.pick [0] rfl) rfl ?_
  refine ql 2 rfl #[tt, tt, tt, ff, ff, ff, ff, ff, ff, ff, ff, ff] (by kernel_rfl) (by kernel_rfl) (fun w' hw => v_p qc rfl w') (h.pick [0] rfl) rfl ?_
  obtain ⟨y1, hy1, hF⟩ := qd hF
  have he1 := qf hy1
  obtain ⟨b2, o_1, q1, cs2, hp1, hq1, -, hr1, hc3⟩ := s5.at hy1
  obtain ⟨p6, k6, p7, k7, p8, k8, p9, k9, rfl, s6, s7, s8, s9⟩ := qbJ hr1
  refine ql 3 rfl #[tt, tt, tt, tt, ff, ff, ff, ff, ff, ff, ff, ff] (by kernel_rfl) (by kernel_rfl) (fun w' hw => qf6 qc hp1 hq1 ⟨he1.1, he1.2.1⟩ rfl rfl rfl rfl rfl rfl) (h.pick [0] rfl) rfl ?_
  refine ql 4 rfl #[tt, tt, tt, tt, tt, ff, ff, ff, ff, ff, ff, ff] (by kernel_rfl) (by kernel_rfl) (fun w' hw => qbI qc (hc3.below hw.below) (j := 0) rfl rfl rfl) (h.pick [0] rfl) rfl ?_
  refine ql 5 rfl #[tt, tt, tt, tt, tt, tt, ff, ff, ff, ff, ff, ff] (by kernel_rfl) (by kernel_rfl) (fun w' hw => v_p qc rfl w') (h.pick [0] rfl) rfl ?_
  refine ql 6 rfl #[tt, tt, tt, tt, tt, tt, tt, ff, ff, ff, ff, ff] (by kernel_rfl) (by kernel_rfl) (fun w' hw => qbI qc (hw.box 0 rfl) (j := 1) rfl rfl rfl) (h.pick [0] rfl) rfl ?_
  refine ql 7 rfl #[tt, tt, tt, tt, tt, tt, tt, tt, ff, ff, ff, ff] (by kernel_rfl) (by kernel_rfl) (fun w' hw => v_p qc rfl w') (h.pick [0] rfl) rfl ?_
  refine qaI 8 rfl #[tt, tt, tt, tt, tt, tt, tt, tt, tt, ff, ff, ff] (by kernel_rfl) (by kernel_rfl) ?_
  obtain ⟨r1, hr2, hF⟩ := qd hF
  refine qai r1 h call138 (qjw (qbd (⟨b.Design.Instances, b.Design.Nets, b.Design.Ports⟩ : qj) (h.oldS s2) (h.oldS s3) (h.oldS s4)) hr2) rfl rfl rfl rfl ?_
  intro w4 S1 p10 k10 h
  refine qaw (fun _ => (h.pick [1] rfl)) ?_
  refine ql 9 rfl #[tt, tt, tt, tt, tt, tt, tt, tt, tt, tt, ff, ff] (by kernel_rfl) (by kernel_rfl) (fun w' hw => v_p qc rfl w') (h.pick [1] rfl) rfl ?_
  refine qaI 10 rfl #[tt, tt, tt, tt, tt, tt, tt, tt, tt, tt, tt, ff] (by kernel_rfl) (by kernel_rfl) ?_
  obtain ⟨r2, hr3, hF⟩ := qd hF
  refine qp r2 h call137 (qng (qiI y1 (h.oldS s6) (h.oldS s7) (h.oldS s8) (h.oldS s9)) hr3) rfl rfl rfl rfl ?_
  intro w5 h
  refine qaw (fun _ => (h.pick [1] rfl)) ?_
  refine ql 11 rfl #[tt, tt, tt, tt, tt, tt, tt, tt, tt, tt, tt, tt] (by kernel_rfl) (by kernel_rfl) (fun w' hw => v_p qc rfl w') (h.pick [1] rfl) rfl ?_
  refine qd4 (by kernel_rfl) ?_
  refine qr rfl hF ?_ ?_ <;> intro hF
  ·refine zSR (zp1 rfl (qb ?_))
   obtain rfl := qh hF; replace hF := hK1
   exact qy qc h hF ⟨rfl, trivial⟩
  refine zKER (zp3 rfl (qb ?_))
  replace h := h.pick [1] rfl
  exact qA m1 [(1, _), (3, _)] (Nat.lt_succ_self m1) ⟨rfl, rfl, trivial⟩ ⟨_, hF, rfl, h⟩
 refine qG rfl ?_
 obtain rfl := qh hF; replace hF := hK1
 exact zSR (zp1 rfl (qb (qy qc h hF ⟨rfl, trivial⟩)))

def qaX (_ : Nat) (x : Int) (low : Int) (high : Int) : Option Bool :=
 bif decide (x ≥ low) then
  some (decide (x ≤ high))
 else
  some false

theorem qaM {n : Nat} {w : World} {x : Int} {low : Int} {high : Int}  {r : Bool} (hF : qaX n x low high = some r) : RetV Tryz.prog 86 [.int .i64 x, .int .i64 low, .int .i64 high] w r := by
 refine qe Tryz.func86 rfl (m := 15) rfl rfl (fun h => ?_)
 rw [qaX] at hF
 refine zSR (zp1 rfl (zNSR (zp4 rfl ?_)))
 by_cases hc1 : (decide (x ≥ low)) = true
 ·replace hF := bifT hc1 hF
  exact qE hc1 (t := 10) rfl (qa rfl (zp1 rfl (qa rfl (zp1 rfl (qa rfl (zp3 rfl (qb (qy qc h hF ⟨rfl, trivial⟩))))))))
 replace hc1 := zb hc1
 replace hF := bifF hc1 hF
 exact qD hc1 (t := 10) rfl (zn3 rfl (zp2 rfl (qb (qy qc h hF ⟨rfl, trivial⟩))))

def qht (_ : Nat) (s cutset : ByteArray) : Option ByteArray :=
 if s.size ≤ 9223372036854775807 ∧ cutset.size < 4294967281 ∧ cutset.data.toList.all (fun b => decide (b.toNat < 128)) = true then some ⟨(Lib.trimS s.data.toList cutset.data.toList).toArray⟩ else none

theorem qmy {n : Nat} {w : World} {s cutset : ByteArray} {r : ByteArray} (hF : qht n s cutset = some r) : RetV Tryz.prog 228 [.string s, .string cutset] w r := by
 unfold qht at hF
 split at hF
 ·rename_i hh
  obtain rfl := qh hF
  refine (Tryz.strings_Trim_any s cutset w hh.1 hh.2.1 hh.2.2).mono ?_
  rintro e w' ⟨rfl, hB⟩
  exact ⟨_, rfl, hB, [.string _], rfl, qpM _ _⟩
 cases hF

def qf8 (_ : Nat) (s : ByteArray) (c : (IntK .u8)) : Option Int :=
 some (Lib.indexByte s.data.toList c.val.toNat.toUInt8)

theorem qkq {n : Nat} {w : World} {s : ByteArray} {c : (IntK .u8)} {r : Int} (hF : qf8 n s c = some r) : RetV Tryz.prog 229 [.string s, .int .u8 c.val] w r := by
 obtain rfl := qh hF
 refine (Tryz.strings_IndexByte s c.val w).mono ?_
 rintro e w' ⟨rfl, rfl⟩
 exact ⟨_, rfl, Below.refl _ _, [.int .i64 _], rfl, qrz _ _⟩

def qhh (n : Nat) (s : ByteArray) : Option Bool :=
 (qaX n (s.size : Int) 1 8).bind fun r1 =>
 bif r1 then
  (qht n s (⟨#[97, 98, 99, 100, 101, 102, 103, 104, 105, 106, 107, 108, 109, 110, 111, 112, 113, 114, 115, 116, 117, 118, 119, 120, 121, 122, 48, 49, 50, 51, 52, 53, 54, 55, 56, 57]⟩ : ByteArray)).bind fun r2 =>
  bif (r2.toList == (⟨#[]⟩ : ByteArray).toList) then
   (atS s 0).bind fun y1 =>
   (qf8 n (⟨#[97, 98, 99, 100, 101, 102, 103, 104, 105, 106, 107, 108, 109, 110, 111, 112, 113, 114, 115, 116, 117, 118, 119, 120, 121, 122]⟩ : ByteArray) (⟨y1⟩ : IntK .u8)).bind fun r3 =>
   some (decide (r3 ≥ 0))
  else
   some false
 else
  some false

theorem qj8 {n : Nat} {w : World} {s : ByteArray}  {r : Bool} (hF : qhh n s = some r) : RetV Tryz.prog 218 [.string s] w r := by
 refine qe Tryz.func218 rfl (m := 17) rfl rfl (fun h => ?_)
 rw [qhh] at hF
 refine zSR (zp1 rfl (zNSR (zp2 rfl ?_)))
 obtain ⟨r1, hr1, hF⟩ := qd hF
 refine qp r1 h call86 (qaM hr1) rfl rfl rfl rfl ?_
 intro w1 h
 refine zp1 rfl ?_
 by_cases hc1 : r1 = true
 ·replace hF := bifT hc1 hF
  refine qE hc1 (t := 6) rfl (qa rfl (zp1 rfl (qa rfl ?_)))
  obtain ⟨r2, hr2, hF⟩ := qd hF
  refine qkA r2 h call228 (qmy hr2) rfl rfl rfl rfl ?_
  intro w2 h
  refine qa rfl (zp3 rfl ?_)
  by_cases hc2 : (r2.toList == (⟨#[]⟩ : ByteArray).toList) = true
  ·replace hF := bifT hc2 hF
   refine qE hc2 (t := 11) rfl (qa rfl (zp1 rfl (qa rfl ?_)))
   obtain ⟨y1, hx1, hF⟩ := qd hF
   have g1 := qkr hx1
   refine r_v (qks qc g1 rfl rfl rfl rfl) rfl (qa rfl ?_)
   obtain ⟨r3, hr3, hF⟩ := qd hF
   refine qR r3 h call229 (qkq hr3) rfl rfl rfl rfl ?_
   intro w3 h
   exact qa rfl (zp3 rfl (qb (qy qc h hF ⟨rfl, trivial⟩)))
  replace hc2 := zb hc2
  replace hF := bifF hc2 hF
  exact qD hc2 (t := 11) rfl (zn4 rfl (zp2 rfl (qb (qy qc h hF ⟨rfl, trivial⟩))))
 replace hc1 := zb hc1
 replace hF := bifF hc1 hF
 refine qD hc1 (t := 6) rfl (zn3 rfl (zp2 rfl (zn4 rfl (zp2 rfl ?_))))
 exact qb (qy qc h hF ⟨rfl, trivial⟩)

def qbE (_ : Nat) (list : (List qan)) : Option Int :=
 some (list.length : Int)

theorem qha {n : Nat} {w : World} {list : (List qan)} {cs1 : List Value} (ha1 : GoT.R w (old w) list cs1) {r : Int} (hF : qbE n list = some r) : RetV Tryz.prog 192 [GoT.v (List qan) cs1] w r := by
 obtain ⟨p1, k1, rfl, s1⟩ := ha1
 refine qe Tryz.func192 rfl (m := 5) rfl rfl (fun h => ?_)
 rw [qbE] at hF
 exact zSR (zp1 rfl (zNSR (zp3 rfl (qb (qaA qc h hF ⟨rfl, trivial⟩)))))

def qbp (s : (List ByteArray)) (v : ByteArray) : Nat → Int → Option (Flow Int Int)
 | 0, _ => none
 | n + 1, i1 =>
  bif decide (i1 < (s.length : Int)) then
   (idx s i1).bind fun y1 =>
   bif (v.toList == y1.toList) then
    some (.ret i1)
   else
    qbp s v n (W64 (i1 + 1))
  else
   some (.nxt i1)

def qei (n : Nat) (s : (List ByteArray)) (v : ByteArray) : Option Int :=
 (qbp s v n 0).bind fun o => match o with
 | .ret r => some r
 | .nxt _ =>
  some (-1)

theorem qjG {n : Nat} {w : World} {s : (List ByteArray)} {v : ByteArray} {cs1 : List Value} (ha1 : GoT.R w (old w) s cs1) {r : Int} (hF : qei n s v = some r) : RetV Tryz.prog 233 [GoT.v (List ByteArray) cs1, .string v] w r := by
 obtain ⟨p1, k1, rfl, s1⟩ := ha1
 refine qe Tryz.func233 rfl (m := 19) rfl rfl (fun h => ?_)
 rw [qei] at hF
 refine zSR (zp1 rfl (zNSSR (zp3 rfl (qb ?_))))
 obtain ⟨o1, hF, hK1⟩ := qd hF
 refine qw (qP [(0, _), (1, _), (7, _), (8, _)] ⟨rfl, rfl, rfl, rfl, trivial⟩ ?_)
 refine qH (fun m e w' => ∃ (i1 : Int), qbp s v m i1 = some o1 ∧ e = [(0, .slice p1 s.length k1), (1, .string v), (7, .int .i64 (s.length : Int)), (8, .int .i64 i1)] ∧ SH w w' []) n ⟨_, hF, rfl, h⟩ ?_
 rintro m1 e1 w1 ⟨i1, hF, rfl, h⟩
 rcases m1 with _ | m1
 ·rw [qbp] at hF
  cases hF
 rw [qbp] at hF
 refine zSR (zp1 rfl (zNS ?_))
 refine qr rfl hF ?_ ?_ <;> intro hF
 ·refine zKSBSR (zp2 rfl (zNSR (zp2 rfl ?_)))
  refine zp1 rfl ?_
  obtain ⟨y1, hy1, hF⟩ := qd hF
  have he1 := qf hy1
  obtain ⟨b1, o_1, q1, cs2, hp1, hq1, -, hr1, hc2⟩ := s1.at hy1
  obtain rfl := hr1
  refine zxe hp1 hq1 he1 rfl (zc 0 (hc2.below h.below) rfl (zp1 rfl (qb ?_)))
  refine qr rfl hF ?_ ?_ <;> intro hF
  ·refine zSR (zp2 rfl (qb ?_))
   obtain rfl := qh hF; replace hF := hK1
   exact qaA qc h hF ⟨rfl, trivial⟩
  exact zKER (zp2 rfl (qb (qA m1 [(0, _), (1, _), (7, _), (8, _)] (Nat.lt_succ_self m1) ⟨rfl, rfl, rfl, rfl, trivial⟩ ⟨_, hF, rfl, h⟩)))
 refine qG rfl ?_
 obtain rfl := qh hF; replace hF := hK1
 exact zSR (zp1 rfl (qb (qaA qc h hF ⟨rfl, trivial⟩)))

def qda (n : Nat) (s : (List ByteArray)) (v : ByteArray) : Option Bool :=
 (qei n s v).bind fun r1 =>
 some (decide (r1 ≥ 0))

theorem qi4 {n : Nat} {w : World} {s : (List ByteArray)} {v : ByteArray} {cs1 : List Value} (ha1 : GoT.R w (old w) s cs1) {r : Bool} (hF : qda n s v = some r) : RetV Tryz.prog 222 [GoT.v (List ByteArray) cs1, .string v] w r := by
 obtain ⟨p1, k1, rfl, s1⟩ := ha1
 refine qe Tryz.func222 rfl (m := 9) rfl rfl (fun h => ?_)
 rw [qda] at hF
 refine zSR (zp1 rfl (zNSR (zp2 rfl ?_)))
 obtain ⟨r1, hr1, hF⟩ := qd hF
 refine qR r1 h call233 (qjG ⟨_, _, rfl, (h.oldS s1)⟩ hr1) rfl rfl rfl rfl ?_
 intro w1 h
 exact zp2 rfl (qb (qy qc h hF ⟨rfl, trivial⟩))

def qc1 (list : (List ByteArray)) : Nat → Int → Option (Flow Bool Int)
 | 0, _ => none
 | n + 1, i1 =>
  bif decide (i1 < (list.length : Int)) then
   (idx list i1).bind fun y1 =>
   (qhh n y1).bind fun r1 =>
   bif (!r1) then
    some (.ret false)
   else
    (subS list 0 i1).bind fun x1 =>
    (qda n x1 y1).bind fun r2 =>
    bif r2 then
     some (.ret false)
    else
     qc1 list n (W64 (i1 + 1))
  else
   some (.nxt i1)

def qdJ (n : Nat) (list : (List ByteArray)) : Option Bool :=
 (qc1 list n 0).bind fun o => match o with
 | .ret r => some r
 | .nxt _ =>
  some true

theorem qfx {n : Nat} {w : World} {list : (List ByteArray)} {cs1 : List Value} (ha1 : GoT.R w (old w) list cs1) {r : Bool} (hF : qdJ n list = some r) : RetV Tryz.prog 205 [GoT.v (List ByteArray) cs1] w r := by
 obtain ⟨p1, k1, rfl, s1⟩ := ha1
 refine qe Tryz.func205 rfl (m := 23) rfl rfl (fun h => ?_)
 rw [qdJ] at hF
 refine zSR (zp1 rfl (zNSSR (zp3 rfl (qb ?_))))
 obtain ⟨o1, hF, hK1⟩ := qd hF
 refine qw (qP [(0, _), (5, _), (6, _), (7, _)] ⟨rfl, rfl, rfl, rfl, trivial⟩ ?_)
 refine qH (fun m e w' => ∃ (i1 : Int), qc1 list m i1 = some o1 ∧ e = [(0, .slice p1 list.length k1), (5, .slice p1 list.length k1), (6, .int .i64 (list.length : Int)), (7, .int .i64 i1)] ∧ SH w w' []) n ⟨_, hF, rfl, h⟩ ?_
 rintro m1 e1 w1 ⟨i1, hF, rfl, h⟩
 rcases m1 with _ | m1
 ·rw [qc1] at hF
  cases hF
 rw [qc1] at hF
 refine zSR (zp1 rfl (zNS ?_))
 refine qr rfl hF ?_ ?_ <;> intro hF
 ·refine zKSBSR (zp1 rfl ?_)
  obtain ⟨y1, hy1, hF⟩ := qd hF
  have he1 := qf hy1
  obtain ⟨b1, o_1, q1, cs2, hp1, hq1, -, hr1, hc2⟩ := s1.at hy1
  obtain rfl := hr1
  refine zxe hp1 hq1 he1 rfl (zc 0 (hc2.below h.below) rfl (zp2 rfl (zNSR (zp1 rfl ?_))))
  obtain ⟨r1, hr2, hF⟩ := qd hF
  refine qp r1 h call218 (qj8 hr2) rfl rfl rfl rfl ?_
  intro w2 h
  refine zp2 rfl ?_
  by_cases hc3 : (!r1) = true
  ·replace hF := bifT hc3 hF
   refine qE hc3 (t := 15) rfl (zn5 rfl (zp1 rfl (qb (qe1 rfl rfl (zSR (zp1 rfl ?_))))))
   refine qb ?_
   obtain rfl := qh hF; replace hF := hK1
   exact qy qc h hF ⟨rfl, trivial⟩
  replace hc3 := zb hc3
  replace hF := bifF hc3 hF
  refine qD hc3 (t := 15) rfl (qa rfl (zp1 rfl (qa rfl (zp1 rfl (qa rfl ?_)))))
  obtain ⟨x1, hx1, hF⟩ := qd hF
  obtain ⟨p2, k2, hp2, hk1, hl1, g1⟩ := qpz (h.oldS s1) hx1
  refine r_v (qm5 qc rfl rfl rfl (qp1 g1 rfl) hp2 hk1 hl1 rfl rfl rfl rfl) rfl ?_
  have s2 := qpN s1 hx1 hp2 hk1
  refine qa rfl (zp1 rfl (qa rfl ?_))
  obtain ⟨r2, hr3, hF⟩ := qd hF
  refine qp r2 h call222 (qi4 ⟨_, _, rfl, (h.oldS s2)⟩ hr3) rfl rfl rfl rfl ?_
  intro w3 h
  refine zp1 rfl (qb ?_)
  refine qr rfl hF ?_ ?_ <;> intro hF
  ·refine zSR (zp1 rfl (qb ?_))
   obtain rfl := qh hF; replace hF := hK1
   exact qy qc h hF ⟨rfl, trivial⟩
  exact zKER (zp2 rfl (qb (qA m1 [(0, _), (5, _), (6, _), (7, _)] (Nat.lt_succ_self m1) ⟨rfl, rfl, rfl, rfl, trivial⟩ ⟨_, hF, rfl, h⟩)))
 refine qG rfl ?_
 obtain rfl := qh hF; replace hF := hK1
 exact zSR (zp1 rfl (qb (qy qc h hF ⟨rfl, trivial⟩)))

def qcf (list : (List qan)) : Nat → (List ByteArray) → Int → Option (Flow Bool ((List ByteArray) × Int))
 | 0, _, _ => none
 | n + 1, x1, i1 =>
  bif decide (i1 < (list.length : Int)) then
   (idx list i1).bind fun y1 =>
   (appS x1 ([y1.Name] : List ByteArray)).bind fun x2 =>
   bif (i1 == (W64 ((list.length : Int) - 1))) then
    bif (y1.Dir != 2) then
     some (.ret false)
    else
     bif (y1.Cap != 0) then
      some (.ret false)
     else
      bif y1.Clock then
       some (.ret false)
      else
       qcf list n x2 (W64 (i1 + 1))
   else
    bif (y1.Dir != 1) then
     some (.ret false)
    else
     (qaX n y1.Cap 0 500).bind fun r1 =>
     bif (!r1) then
      some (.ret false)
     else
      qcf list n x2 (W64 (i1 + 1))
  else
   some (.nxt (x1, i1))

def qhB (n : Nat) (list : (List qan)) : Option Bool :=
 (qcf list n ([] : List ByteArray) 0).bind fun o => match o with
 | .ret r => some r
 | .nxt (x1, _) =>
  (qbE n list).bind fun r2 =>
  (qaX n r2 2 5).bind fun r3 =>
  bif r3 then
   (qdJ n x1).bind fun r4 =>
   some r4
  else
   some false

theorem qmt {n : Nat} {w : World} {list : (List qan)} {cs1 : List Value} (ha1 : GoT.R w (old w) list cs1) {r : Bool} (hF : qhB n list = some r) : RetV Tryz.prog 219 [GoT.v (List qan) cs1] w r := by
 obtain ⟨p1, k1, rfl, s1⟩ := ha1
 refine qe Tryz.func219 rfl (m := 52) rfl rfl (fun h => ?_)
 rw [qhB] at hF
 refine zSR (zp1 rfl (zNSR (zp1 rfl (zNSSR (zp1 rfl ?_)))))
 refine zp2 rfl (qb ?_)
 replace h := h.nil (α := ByteArray)
 obtain ⟨o1, hF, hK1⟩ := qd hF
 refine qw (qP [(0, _), (3, _), (6, _), (7, _), (8, _)] ⟨rfl, rfl, rfl, rfl, rfl, trivial⟩ ?_)
 refine qH (fun m e w' => ∃ (S1 : Nat → Prop) (p2 : Option Addr) (ln1 : Nat) (k2 : Nat) (x1 : (List ByteArray)) (i1 : Int), qcf list m x1 i1 = some o1 ∧ e = [(0, .slice p1 list.length k1), (3, .slice p2 ln1 k2), (6, .slice p1 list.length k1), (7, .int .i64 (list.length : Int)), (8, .int .i64 i1)] ∧ SH w w' [Ch.own S1 (x1 : List ByteArray) [.slice p2 ln1 k2]]) n ⟨_, _, _, _, _, _, hF, rfl, h⟩ ?_
 rintro m1 e1 w1 ⟨S1, p2, ln1, k2, x1, i1, hF, rfl, h⟩
 obtain rfl := (h.sl 0 rfl).2
 rcases m1 with _ | m1
 ·rw [qcf] at hF
  cases hF
 rw [qcf] at hF
 refine zSR (zp1 rfl (zNS ?_))
 refine qr rfl hF ?_ ?_ <;> intro hF
 ·refine zKSBSR (zp1 rfl ?_)
  obtain ⟨y1, hy1, hF⟩ := qd hF
  have he1 := qf hy1
  obtain ⟨b1, o_1, q1, cs2, hp1, hq1, -, hr1, hc2⟩ := s1.at hy1
  obtain rfl := qa5 hr1
  refine zxe hp1 hq1 he1 rfl (zc 0 (hc2.below h.below) rfl (qaa qc h rfl rfl rfl ?_))
  intro w2 bb1 h
  refine zp1 rfl (zs 0 h rfl ?_)
  intro w3 h
  replace h : SH _ _ [Ch.box bb1 [.string y1.Name, .int .i64 y1.Dir, .int .i64 y1.Cap, .bool y1.Clock] 238, Ch.own S1 (x1 : List ByteArray) [.slice p2 x1.length k2]] := h
  refine zNSR (zp2 rfl (zl 0 0 h rfl (qaz qc [.tmp 15] _ ([y1.Name] : List ByteArray) h rfl rfl rfl rfl rfl rfl rfl rfl rfl ⟨rfl, trivial⟩ rfl ?_)))
  intro w4 p3 S2 h
  obtain ⟨x2, hx1, hF⟩ := qd hF
  obtain ⟨g1, hx1⟩ := qa6 hx1
  refine qee qc 2 h rfl (h.sl 0 rfl).1 (h.sl 0 rfl).2 rfl rfl rfl rfl rfl rfl rfl rfl rfl g1 hx1 rfl ?_
  intro w5 p4 k3 S3 h
  refine zp1 rfl (zNSR (zp5 rfl (qb ?_)))
  refine qr rfl hF ?_ ?_ <;> intro hF
  ·refine zSR (zp1 rfl (zl 1 1 h rfl (zp2 rfl ?_)))
   by_cases hc4 : (y1.Dir != 2) = true
   ·replace hF := bifT hc4 hF
    refine qE hc4 (t := 26) rfl (zn3 rfl (zp2 rfl (zn2 rfl (zp1 rfl (qb (qe1 rfl rfl (qbq ?_)))))))
    refine qB (zp1 rfl (qb ?_))
    obtain rfl := qh hF; replace hF := hK1
    exact qy qc h hF ⟨rfl, trivial⟩
   replace hc4 := zb hc4
   replace hF := bifF hc4 hF
   refine qD hc4 (t := 26) rfl (qa rfl (zp1 rfl (qa rfl (zl 1 2 h rfl (qa rfl (zp3 rfl ?_))))))
   by_cases hc5 : (y1.Cap != 0) = true
   ·replace hF := bifT hc5 hF
    refine qE hc5 (t := 31) rfl (zn2 rfl (zp1 rfl (qb (qe1 rfl rfl (zSR (zp1 rfl (qb ?_)))))))
    obtain rfl := qh hF; replace hF := hK1
    exact qy qc h hF ⟨rfl, trivial⟩
   replace hc5 := zb hc5
   replace hF := bifF hc5 hF
   refine qD hc5 (t := 31) rfl (qa rfl (zp1 rfl (qa rfl (zl 1 3 h rfl (zp1 rfl (qb ?_))))))
   refine qr rfl hF ?_ ?_ <;> intro hF
   ·refine zSR (zp1 rfl (qb ?_))
    obtain rfl := qh hF; replace hF := hK1
    exact qy qc h hF ⟨rfl, trivial⟩
   refine zKER (zp2 rfl (qb ?_))
   replace h := h.pick [2] rfl
   exact qA m1 [(0, _), (3, _), (6, _), (7, _), (8, _)] (Nat.lt_succ_self m1) ⟨rfl, rfl, rfl, rfl, rfl, trivial⟩ ⟨_, _, _, _, _, _, hF, rfl, h⟩
  refine zSR (zp1 rfl (zl 1 1 h rfl (zp2 rfl ?_)))
  by_cases hc7 : (y1.Dir != 1) = true
  ·replace hF := bifT hc7 hF
   refine qE hc7 (t := 38) rfl (zn4 rfl (zp1 rfl (qb (qe1 rfl rfl (zSR (zp1 rfl (qb ?_)))))))
   obtain rfl := qh hF; replace hF := hK1
   exact qy qc h hF ⟨rfl, trivial⟩
  replace hc7 := zb hc7
  replace hF := bifF hc7 hF
  refine qD hc7 (t := 38) rfl (qa rfl (zp1 rfl (qa rfl (zl 1 2 h rfl (qa rfl ?_)))))
  obtain ⟨r1, hr2, hF⟩ := qd hF
  refine qp r1 h call86 (qaM hr2) rfl rfl rfl rfl ?_
  intro w6 h
  refine qa rfl (zp2 rfl (qb ?_))
  refine qr rfl hF ?_ ?_ <;> intro hF
  ·refine zSR (zp1 rfl (qb ?_))
   obtain rfl := qh hF; replace hF := hK1
   exact qy qc h hF ⟨rfl, trivial⟩
  refine zKER (zp2 rfl (qb ?_))
  replace h := h.pick [2] rfl
  exact qA m1 [(0, _), (3, _), (6, _), (7, _), (8, _)] (Nat.lt_succ_self m1) ⟨rfl, rfl, rfl, rfl, rfl, trivial⟩ ⟨_, _, _, _, _, _, hF, rfl, h⟩
 refine qG rfl ?_
 obtain rfl := qh hF; replace hF := hK1
 refine zSR (zp1 rfl ?_)
 obtain ⟨r2, hr3, hF⟩ := qd hF
 refine qR r2 h call192 (qha ⟨_, _, rfl, (h.oldS s1)⟩ hr3) rfl rfl rfl rfl ?_
 intro w7 h
 obtain ⟨r3, hr4, hF⟩ := qd hF
 refine qp r3 h call86 (qaM hr4) rfl rfl rfl rfl ?_
 intro w8 h
 refine zp1 rfl ?_
 by_cases hc9 : r3 = true
 ·replace hF := bifT hc9 hF
  refine qE hc9 (t := 48) rfl (qa rfl (zp1 rfl (qa rfl ?_)))
  obtain ⟨r4, hr5, hF⟩ := qd hF
  refine qp r4 h call205 (qfx (h.own 0 rfl) hr5) rfl rfl rfl rfl ?_
  intro w9 h
  exact zp2 rfl (qb (qy qc h hF ⟨rfl, trivial⟩))
 replace hc9 := zb hc9
 replace hF := bifF hc9 hF
 exact qD hc9 (t := 48) rfl (zn2 rfl (zp2 rfl (qb (qy qc h hF ⟨rfl, trivial⟩))))

def qck (n : Nat) (c : qC) : Option Int :=
 (qbE n c.Pins).bind fun r1 =>
 some (W64 (r1 - 1))

theorem qfj {n : Nat} {w : World} {c : qC} {cs1 : List Value} (ha1 : GoT.R w (old w) c cs1) {r : Int} (hF : qck n c = some r) : RetV Tryz.prog 163 [GoT.v qC cs1] w r := by
 obtain ⟨p1, k1, p2, k2, p3, k3, rfl, s1, s2, s3⟩ := qY ha1
 refine qe Tryz.func163 rfl (m := 7) rfl rfl (fun h => ?_)
 rw [qck] at hF
 refine zSR (qN h rfl rfl ?_)
 intro w1 bb1 h
 refine zp1 rfl (zNSR (zp1 rfl (zl 0 2 h rfl ?_)))
 obtain ⟨r1, hr1, hF⟩ := qd hF
 refine qR r1 h call192 (qha ⟨_, _, rfl, (h.oldS s1)⟩ hr1) rfl rfl rfl rfl ?_
 intro w2 h
 exact zp2 rfl (qb (qaA qc h hF ⟨rfl, trivial⟩))

def qhz (_ : Nat) (kind : Int) : Option Bool :=
 bif (kind == 4) then
  some true
 else
  some (kind == 5)

theorem qmp {n : Nat} {w : World} {kind : Int}  {r : Bool} (hF : qhz n kind = some r) : RetV Tryz.prog 243 [.int .i64 kind] w r := by
 refine qe Tryz.func243 rfl (m := 9) rfl rfl (fun h => ?_)
 rw [qhz] at hF
 refine zSR (zp1 rfl (zNSR (zp3 rfl ?_)))
 by_cases hc1 : (kind == 4) = true
 ·replace hF := bifT hc1 hF
  exact qE hc1 (t := 5) rfl (zn2 rfl (zp2 rfl (qb (qy qc h hF ⟨rfl, trivial⟩))))
 replace hc1 := zb hc1
 replace hF := bifF hc1 hF
 exact qD hc1 (t := 5) rfl (qa rfl (zp1 rfl (qa rfl (zp3 rfl (qb (qy qc h hF ⟨rfl, trivial⟩))))))

def qfs (n : Nat) (a_n : Int) (v0 : Int) (v1 : Int) : Option Bool :=
 (qaX n a_n v0 v1).bind fun r1 =>
 some (!r1)

theorem qkM {n : Nat} {w : World} {a_n : Int} {v0 : Int} {v1 : Int} {p1 : Option Addr} (ha1 : GoT.R w (old w) (some v0) [.pointer p1]) {p2 : Option Addr} (ha2 : GoT.R w (old w) (some v1) [.pointer p2]) {r : Bool} (hF : qfs n a_n v0 v1 = some r) : RetV Tryz.prog 156 [.int .i64 a_n, .pointer p1, .pointer p2] w r := by
 obtain ⟨b1, o_1, cs1, rfl, -, hr1, hc1⟩ := PtR.get ha1 rfl
 obtain rfl := hr1
 obtain ⟨b2, o_2, cs2, rfl, -, hr2, hc2⟩ := PtR.get ha2 rfl
 obtain rfl := hr2
 refine qe Tryz.func156 rfl (m := 10) rfl rfl (fun h => ?_)
 rw [qfs] at hF
 refine zSR (zp1 rfl (zNSR (zp1 rfl (zc 0 (hc1.below h.below) rfl (zc 0 (hc2.below h.below) rfl ?_)))))
 obtain ⟨r1, hr3, hF⟩ := qd hF
 refine qp r1 h call86 (qaM hr3) rfl rfl rfl rfl ?_
 intro w1 h
 exact zp2 rfl (qb (qy qc h hF ⟨rfl, trivial⟩))

def qT (s : (List Int)) (f_0 : Int) (f_1 : Int) : Nat → Int → Option (Flow Int Int)
 | 0, _ => none
 | n + 1, i1 =>
  bif decide (i1 < (s.length : Int)) then
   (idx s i1).bind fun y1 =>
   (qfs n y1 f_0 f_1).bind fun r1 =>
   bif r1 then
    some (.ret i1)
   else
    qT s f_0 f_1 n (W64 (i1 + 1))
  else
   some (.nxt i1)

def qaP (n : Nat) (s : (List Int)) (f_0 : Int) (f_1 : Int) : Option Int :=
 (qT s f_0 f_1 n 0).bind fun o => match o with
 | .ret r => some r
 | .nxt _ =>
  some (-1)

theorem qfQ {n : Nat} {w : World} {s : (List Int)} {f_0 : Int} {f_1 : Int} {cs1 : List Value} (ha1 : GoT.R w (old w) s cs1) {p2 : Option Addr} (ha2 : GoT.R w (old w) (some f_0) [.pointer p2]) {p3 : Option Addr} (ha3 : GoT.R w (old w) (some f_1) [.pointer p3]) {r : Int} (hF : qaP n s f_0 f_1 = some r) : RetV Tryz.prog 190 [GoT.v (List Int) cs1, .func (.func 156) #[] #[.pointer p2, .pointer p3]] w r := by
 obtain ⟨p1, k1, rfl, s1⟩ := ha1
 obtain ⟨b1, o_1, cs2, rfl, -, hr1, hc1⟩ := PtR.get ha2 rfl
 obtain rfl := hr1
 obtain ⟨b2, o_2, cs3, rfl, -, hr2, hc2⟩ := PtR.get ha3 rfl
 obtain rfl := hr2
 refine qe Tryz.func190 rfl (m := 19) rfl rfl (fun h => ?_)
 rw [qaP] at hF
 refine zSR (zp1 rfl (zNSSR (zp3 rfl (qb ?_))))
 obtain ⟨o1, hF, hK1⟩ := qd hF
 refine qw (qP [(0, _), (1, _), (7, _), (8, _)] ⟨rfl, rfl, rfl, rfl, trivial⟩ ?_)
 refine qH (fun m e w' => ∃ (i1 : Int), qT s f_0 f_1 m i1 = some o1 ∧ e = [(0, .slice p1 s.length k1), (1, .func (.func 156) #[] #[.pointer (some ⟨b1, o_1, none⟩), .pointer (some ⟨b2, o_2, none⟩)]), (7, .int .i64 (s.length : Int)), (8, .int .i64 i1)] ∧ SH w w' []) n ⟨_, hF, rfl, h⟩ ?_
 rintro m1 e1 w1 ⟨i1, hF, rfl, h⟩
 rcases m1 with _ | m1
 ·rw [qT] at hF
  cases hF
 rw [qT] at hF
 refine zSR (zp1 rfl (zNS ?_))
 refine qr rfl hF ?_ ?_ <;> intro hF
 ·refine zKSBSR (zp2 rfl (zNSR (zp2 rfl ?_)))
  refine zp1 rfl ?_
  obtain ⟨y1, hy1, hF⟩ := qd hF
  have he1 := qf hy1
  obtain ⟨b3, o_3, q1, cs4, hp1, hq1, -, hr3, hc4⟩ := s1.at hy1
  obtain rfl := hr3
  refine zxe hp1 hq1 he1 rfl (zc 0 (hc4.below h.below) rfl ?_)
  obtain ⟨r1, hr4, hF⟩ := qd hF
  refine qp r1 h call156 (qkM (h.old ha2) (h.old ha3) hr4) rfl rfl rfl rfl ?_
  intro w2 h
  refine qb ?_
  refine qr rfl hF ?_ ?_ <;> intro hF
  ·refine zSR (zp2 rfl (qb ?_))
   obtain rfl := qh hF; replace hF := hK1
   exact qaA qc h hF ⟨rfl, trivial⟩
  exact zKER (zp2 rfl (qb (qA m1 [(0, _), (1, _), (7, _), (8, _)] (Nat.lt_succ_self m1) ⟨rfl, rfl, rfl, rfl, trivial⟩ ⟨_, hF, rfl, h⟩)))
 refine qG rfl ?_
 obtain rfl := qh hF; replace hF := hK1
 exact zSR (zp1 rfl (qb (qaA qc h hF ⟨rfl, trivial⟩)))

def qa1 (n : Nat) (s : (List Int)) (f_0 : Int) (f_1 : Int) : Option Bool :=
 (qaP n s f_0 f_1).bind fun r1 =>
 some (decide (r1 ≥ 0))

theorem qfi {n : Nat} {w : World} {s : (List Int)} {f_0 : Int} {f_1 : Int} {cs1 : List Value} (ha1 : GoT.R w (old w) s cs1) {p2 : Option Addr} (ha2 : GoT.R w (old w) (some f_0) [.pointer p2]) {p3 : Option Addr} (ha3 : GoT.R w (old w) (some f_1) [.pointer p3]) {r : Bool} (hF : qa1 n s f_0 f_1 = some r) : RetV Tryz.prog 155 [GoT.v (List Int) cs1, .func (.func 156) #[] #[.pointer p2, .pointer p3]] w r := by
 obtain ⟨p1, k1, rfl, s1⟩ := ha1
 obtain ⟨b1, o_1, cs2, rfl, -, hr1, hc1⟩ := PtR.get ha2 rfl
 obtain rfl := hr1
 obtain ⟨b2, o_2, cs3, rfl, -, hr2, hc2⟩ := PtR.get ha3 rfl
 obtain rfl := hr2
 refine qe Tryz.func155 rfl (m := 9) rfl rfl (fun h => ?_)
 rw [qa1] at hF
 refine zSR (zp1 rfl (zNSR (zp2 rfl ?_)))
 obtain ⟨r1, hr3, hF⟩ := qd hF
 refine qR r1 h call190 (qfQ ⟨_, _, rfl, (h.oldS s1)⟩ (h.old ha2) (h.old ha3) hr3) rfl rfl rfl rfl ?_
 intro w1 h
 exact zp2 rfl (qb (qy qc h hF ⟨rfl, trivial⟩))

def qby (n : Nat) (list : (List Int)) (low : Int) (high : Int) : Option Bool :=
 (qa1 n list low high).bind fun r1 =>
 some (!r1)

theorem qcC {n : Nat} {w : World} {list : (List Int)} {low : Int} {high : Int} {cs1 : List Value} (ha1 : GoT.R w (old w) list cs1) {r : Bool} (hF : qby n list low high = some r) : RetV Tryz.prog 112 [GoT.v (List Int) cs1, .int .i64 low, .int .i64 high] w r := by
 obtain ⟨p1, k1, rfl, s1⟩ := ha1
 refine qe Tryz.func112 rfl (m := 11) rfl rfl (fun h => ?_)
 rw [qby] at hF
 refine zSR (qN h rfl rfl ?_)
 intro w1 bb1 h
 refine qN h rfl rfl ?_
 intro w2 bb2 h
 refine zp1 rfl (zNSR (zp2 rfl ?_))
 obtain ⟨r1, hr1, hF⟩ := qd hF
 refine qp r1 h call155 (qfi ⟨_, _, rfl, (h.oldS s1)⟩ (qiu (x := low) 1 h rfl rfl) (qiu (x := high) 0 h rfl rfl) hr1) rfl rfl rfl rfl ?_
 intro w3 h
 exact zp2 rfl (qb (qy qc h hF ⟨rfl, trivial⟩))

def qaB (_ : Nat) (list : (List Int)) : Option Int :=
 some (list.length : Int)

theorem qbG {n : Nat} {w : World} {list : (List Int)} {cs1 : List Value} (ha1 : GoT.R w (old w) list cs1) {r : Int} (hF : qaB n list = some r) : RetV Tryz.prog 87 [GoT.v (List Int) cs1] w r := by
 obtain ⟨p1, k1, rfl, s1⟩ := ha1
 refine qe Tryz.func87 rfl (m := 5) rfl rfl (fun h => ?_)
 rw [qaB] at hF
 exact zSR (zp1 rfl (zNSR (zp3 rfl (qb (qaA qc h hF ⟨rfl, trivial⟩)))))

def qa4 (list : (List Int)) : Nat → Int → Option (Flow Bool Int)
 | 0, _ => none
 | n + 1, i1 =>
  bif decide (i1 < (list.length : Int)) then
   (idx list (W64 (i1 - 1))).bind fun y1 =>
   (idx list i1).bind fun y2 =>
   bif decide (y1 ≥ y2) then
    some (.ret false)
   else
    qa4 list n (W64 (i1 + 1))
  else
   some (.nxt i1)

def qdh (n : Nat) (list : (List Int)) : Option Bool :=
 (qa4 list n 1).bind fun o => match o with
 | .ret r => some r
 | .nxt _ =>
  some true

theorem qgo {n : Nat} {w : World} {list : (List Int)} {cs1 : List Value} (ha1 : GoT.R w (old w) list cs1) {r : Bool} (hF : qdh n list = some r) : RetV Tryz.prog 154 [GoT.v (List Int) cs1] w r := by
 obtain ⟨p1, k1, rfl, s1⟩ := ha1
 refine qe Tryz.func154 rfl (m := 20) rfl rfl (fun h => ?_)
 rw [qdh] at hF
 refine zSR (zp1 rfl (zNSSR (zp1 rfl (qb ?_))))
 obtain ⟨o1, hF, hK1⟩ := qd hF
 refine qw (qP [(0, _), (3, _)] ⟨rfl, rfl, trivial⟩ ?_)
 refine qH (fun m e w' => ∃ (i1 : Int), qa4 list m i1 = some o1 ∧ e = [(0, .slice p1 list.length k1), (3, .int .i64 i1)] ∧ SH w w' []) n ⟨_, hF, rfl, h⟩ ?_
 rintro m1 e1 w1 ⟨i1, hF, rfl, h⟩
 rcases m1 with _ | m1
 ·rw [qa4] at hF
  cases hF
 rw [qa4] at hF
 refine zSSR (zp4 rfl (qb ?_))
 refine qr rfl hF ?_ ?_ <;> intro hF
 ·refine zKSB (qbq ?_)
  refine qcN rfl (by kernel_rfl) ?_
  refine zd3 rfl ?_
  obtain ⟨y1, hy1, hF⟩ := qd hF
  have he1 := qf hy1
  obtain ⟨b1, o_1, q1, cs2, hp1, hq1, -, hr1, hc2⟩ := s1.at hy1
  obtain rfl := hr1
  refine zdxe hp1 hq1 he1 rfl ?_
  refine zdc 0 (hc2.below h.below) rfl ?_
  refine zd2 rfl ?_
  obtain ⟨y2, hy2, hF⟩ := qd hF
  have he2 := qf hy2
  obtain ⟨b2, o_2, q2, cs3, hp2, hq2, -, hr2, hc3⟩ := s1.at hy2
  obtain rfl := hr2
  refine zdxe hp2 hq2 he2 rfl ?_
  refine zdc 0 (hc3.below h.below) rfl ?_
  refine zd1 rfl ?_
  refine qbj (fun w2 hb => ?_)
  replace h := h.ext hb
  clear hb
  refine qr rfl hF ?_ ?_ <;> intro hF
  ·refine zSR (zp1 rfl (qb ?_))
   obtain rfl := qh hF; replace hF := hK1
   exact qy qc h hF ⟨rfl, trivial⟩
  exact zKER (zp3 rfl (qb (qA m1 [(0, _), (3, _)] (Nat.lt_succ_self m1) ⟨rfl, rfl, trivial⟩ ⟨_, hF, rfl, h⟩)))
 refine qG rfl ?_
 obtain rfl := qh hF; replace hF := hK1
 exact zSR (zp1 rfl (qb (qy qc h hF ⟨rfl, trivial⟩)))

def qg8 (n : Nat) (list : (List Int)) : Option Bool :=
 (qaB n list).bind fun r1 =>
 (qaX n r1 1 4).bind fun r2 =>
 bif r2 then
  (qby n list 0 100000).bind fun r3 =>
  bif r3 then
   (qdh n list).bind fun r4 =>
   some r4
  else
   some false
 else
  some false

theorem qkm {n : Nat} {w : World} {list : (List Int)} {cs1 : List Value} (ha1 : GoT.R w (old w) list cs1) {r : Bool} (hF : qg8 n list = some r) : RetV Tryz.prog 265 [GoT.v (List Int) cs1] w r := by
 obtain ⟨p1, k1, rfl, s1⟩ := ha1
 refine qe Tryz.func265 rfl (m := 14) rfl rfl (fun h => ?_)
 rw [qg8] at hF
 refine zSR (zp1 rfl (zNSR (zp1 rfl ?_)))
 obtain ⟨r1, hr1, hF⟩ := qd hF
 refine qR r1 h call87 (qbG ⟨_, _, rfl, (h.oldS s1)⟩ hr1) rfl rfl rfl rfl ?_
 intro w1 h
 obtain ⟨r2, hr2, hF⟩ := qd hF
 refine qp r2 h call86 (qaM hr2) rfl rfl rfl rfl ?_
 intro w2 h
 refine zp1 rfl ?_
 by_cases hc1 : r2 = true
 ·replace hF := bifT hc1 hF
  refine qE hc1 (t := 6) rfl (qa rfl (zp1 rfl (qa rfl ?_)))
  obtain ⟨r3, hr3, hF⟩ := qd hF
  refine qp r3 h call112 (qcC ⟨_, _, rfl, (h.oldS s1)⟩ hr3) rfl rfl rfl rfl ?_
  intro w3 h
  refine zp2 rfl ?_
  by_cases hc2 : r3 = true
  ·replace hF := bifT hc2 hF
   refine qE hc2 (t := 10) rfl (qa rfl (zp1 rfl (qa rfl ?_)))
   obtain ⟨r4, hr4, hF⟩ := qd hF
   refine qp r4 h call154 (qgo ⟨_, _, rfl, (h.oldS s1)⟩ hr4) rfl rfl rfl rfl ?_
   intro w4 h
   exact zp2 rfl (qb (qy qc h hF ⟨rfl, trivial⟩))
  replace hc2 := zb hc2
  replace hF := bifF hc2 hF
  exact qD hc2 (t := 10) rfl (zn2 rfl (zp2 rfl (qb (qy qc h hF ⟨rfl, trivial⟩))))
 replace hc1 := zb hc1
 replace hF := bifF hc1 hF
 exact qD hc1 (t := 6) rfl (zn2 rfl (zp2 rfl (zn2 rfl (zp2 rfl (qb (qy qc h hF ⟨rfl, trivial⟩))))))

end Go.Fw
