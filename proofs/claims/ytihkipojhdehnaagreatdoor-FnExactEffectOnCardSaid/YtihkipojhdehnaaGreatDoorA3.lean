/- By a program of mine (gen.py): for each function a plain function and the proof that the code computes it. -/
import Derived.Test.YtihkipojhdehnaaGreatDoorA1

namespace Go.Fw
open Go Go.Proofs
open Go.RowKit (Below)
set_option maxRecDepth 100000
set_option maxHeartbeats 1600000
def qdp (a : (List Int)) (b : (List Int)) : Nat → Int → Option (Flow Bool Int)
 | 0, _ => none
 | n + 1, i1 =>
  bif decide (i1 < (a.length : Int)) then
   (idx a i1).bind fun y1 =>
   (idx b i1).bind fun y2 =>
   bif (y1 != y2) then
    some (.ret false)
   else
    qdp a b n (W64 (i1 + 1))
  else
   some (.nxt i1)

def qa4 (n : Nat) (a : (List Int)) (b : (List Int)) : Option Bool :=
 bif ((a.length : Int) != (b.length : Int)) then
  some false
 else
  (qdp a b n 0).bind fun o => match o with
  | .ret r => some r
  | .nxt _ =>
   some true

theorem qa7 {n : Nat} {w : World} {a : (List Int)} {b : (List Int)} {cs1 : List Value} (ha1 : GoT.R w (old w) a cs1) {cs2 : List Value} (ha2 : GoT.R w (old w) b cs2) {r : Bool} (hF : qa4 n a b = some r) : RetV Tryz.prog 19 [GoT.v (List Int) cs1, GoT.v (List Int) cs2] w r := by
 obtain ⟨p1, k1, rfl, s1⟩ := ha1
 obtain ⟨p2, k2, rfl, s2⟩ := ha2
 refine qf Tryz.func19 rfl (m := 26) rfl rfl (fun h => ?_)
 rw [qa4] at hF
 refine zSR (zp1 rfl (zNSSR (zp5 rfl ?_)))
 refine qb ?_
 refine qp rfl hF ?_ ?_ <;> intro hF
 ·exact zSR (zp1 rfl (qb (qx qc h hF ⟨rfl, trivial⟩)))
 refine zKSSR (zp1 rfl (qb ?_))
 obtain ⟨o1, hF, hK1⟩ := qd hF
 refine qA (qW [(0, _), (1, _), (5, _)] ⟨rfl, rfl, rfl, trivial⟩ ?_)
 refine qG (fun m e w' => ∃ (i1 : Int), qdp a b m i1 = some o1 ∧ e = [(0, .slice p1 a.length k1), (1, .slice p2 b.length k2), (5, .int .i64 i1)] ∧ SH w w' []) n ⟨_, hF, rfl, h⟩ ?_
 rintro m1 e1 w1 ⟨i1, hF, rfl, h⟩
 rcases m1 with _ | m1
 ·rw [qdp] at hF
  cases hF
 rw [qdp] at hF
 refine zSSR (zp4 rfl (qb ?_))
 refine qp rfl hF ?_ ?_ <;> intro hF
 ·refine zKSB (qbl ?_)
  refine qb3 rfl (by kernel_rfl) ?_
  refine zd2 rfl ?_
  obtain ⟨y1, hy1, hF⟩ := qd hF
  have he1 := qg hy1
  obtain ⟨b1, o_1, q1, cs3, hp1, hq1, -, hr1, hc3⟩ := s1.at hy1
  obtain rfl := hr1
  refine zdxe hp1 hq1 he1 rfl ?_
  refine zdc 0 (hc3.below h.below) rfl ?_
  refine zd2 rfl ?_
  obtain ⟨y2, hy2, hF⟩ := qd hF
  have he2 := qg hy2
  obtain ⟨b2, o_2, q2, cs4, hp2, hq2, -, hr2, hc4⟩ := s2.at hy2
  obtain rfl := hr2
  refine zdxe hp2 hq2 he2 rfl ?_
  refine zdc 0 (hc4.below h.below) rfl ?_
  refine zd1 rfl ?_
  refine qaR (fun w2 hb => ?_)
  replace h := h.ext hb
  clear hb
  refine qp rfl hF ?_ ?_ <;> intro hF
  ·refine zSR (zp1 rfl (qb ?_))
   obtain rfl := qj hF; replace hF := hK1
   exact qx qc h hF ⟨rfl, trivial⟩
  exact zKER (zp3 rfl (qb (qy m1 [(0, _), (1, _), (5, _)] (Nat.lt_succ_self m1) ⟨rfl, rfl, rfl, trivial⟩ ⟨_, hF, rfl, h⟩)))
 refine qF rfl ?_
 obtain rfl := qj hF; replace hF := hK1
 exact zSR (zp1 rfl (qb (qx qc h hF ⟨rfl, trivial⟩)))

def qhA (_ : Nat) (a : qaC) (b : qaC) : Option Bool :=
 bif (a.Name.toList != b.Name.toList) then
  some false
 else
  bif (a.Dir != b.Dir) then
   some false
  else
   bif (a.Cap != b.Cap) then
    some false
   else
    bif (!(a.Clock == b.Clock)) then
     some false
    else
     some true

theorem qm0 {n : Nat} {w : World} {a : qaC} {b : qaC} {cs1 : List Value} (ha1 : GoT.R w (old w) a cs1) {cs2 : List Value} (ha2 : GoT.R w (old w) b cs2) {r : Bool} (hF : qhA n a b = some r) : RetV Tryz.prog 200 [GoT.v qaC cs1, GoT.v qaC cs2] w r := by
 obtain rfl := qbx ha1
 obtain rfl := qbx ha2
 refine qf Tryz.func200 rfl (m := 25) rfl rfl (fun h => ?_)
 rw [qhA] at hF
 refine zSR (qP h rfl rfl ?_)
 intro w1 bb1 h
 refine qP h rfl rfl ?_
 intro w2 bb2 h
 refine zp1 rfl (zNSSR (zp1 rfl (zl 1 0 h rfl (zp1 rfl (zl 0 0 h rfl (zp1 rfl (qb ?_)))))))
 refine qp rfl hF ?_ ?_ <;> intro hF
 ·exact zSR (zp1 rfl (qb (qx qc h hF ⟨rfl, trivial⟩)))
 refine zKSSR (zp1 rfl (zl 1 1 h rfl (zp1 rfl (zl 0 1 h rfl (zp1 rfl (qb ?_))))))
 refine qp rfl hF ?_ ?_ <;> intro hF
 ·exact zSR (zp1 rfl (qb (qx qc h hF ⟨rfl, trivial⟩)))
 refine zKSSR (zp1 rfl (zl 1 2 h rfl (zp1 rfl (zl 0 2 h rfl (zp1 rfl (qb ?_))))))
 refine qp rfl hF ?_ ?_ <;> intro hF
 ·exact zSR (zp1 rfl (qb (qx qc h hF ⟨rfl, trivial⟩)))
 refine zKSSR (zp1 rfl (zl 1 3 h rfl (zp1 rfl (zl 0 3 h rfl (zp1 rfl (qb ?_))))))
 refine qp rfl hF ?_ ?_ <;> intro hF
 ·exact zSR (zp1 rfl (qb (qx qc h hF ⟨rfl, trivial⟩)))
 exact zKSR (zp1 rfl (qb (qx qc h hF ⟨rfl, trivial⟩)))

def qep (a : (List qaC)) (b : (List qaC)) : Nat → Int → Option (Flow Bool Int)
 | 0, _ => none
 | n + 1, i1 =>
  bif decide (i1 < (a.length : Int)) then
   (idx a i1).bind fun y1 =>
   (idx b i1).bind fun y2 =>
   (qhA n y1 y2).bind fun r1 =>
   bif (!r1) then
    some (.ret false)
   else
    qep a b n (W64 (i1 + 1))
  else
   some (.nxt i1)

def qhV (n : Nat) (a : (List qaC)) (b : (List qaC)) : Option Bool :=
 bif ((a.length : Int) != (b.length : Int)) then
  some false
 else
  (qep a b n 0).bind fun o => match o with
  | .ret r => some r
  | .nxt _ =>
   some true

theorem qmM {n : Nat} {w : World} {a : (List qaC)} {b : (List qaC)} {cs1 : List Value} (ha1 : GoT.R w (old w) a cs1) {cs2 : List Value} (ha2 : GoT.R w (old w) b cs2) {r : Bool} (hF : qhV n a b = some r) : RetV Tryz.prog 173 [GoT.v (List qaC) cs1, GoT.v (List qaC) cs2] w r := by
 obtain ⟨p1, k1, rfl, s1⟩ := ha1
 obtain ⟨p2, k2, rfl, s2⟩ := ha2
 refine qf Tryz.func173 rfl (m := 27) rfl rfl (fun h => ?_)
 rw [qhV] at hF
 refine zSR (zp1 rfl (zNSSR (zp5 rfl ?_)))
 refine qb ?_
 refine qp rfl hF ?_ ?_ <;> intro hF
 ·exact zSR (zp1 rfl (qb (qx qc h hF ⟨rfl, trivial⟩)))
 refine zKSSR (zp1 rfl (qb ?_))
 obtain ⟨o1, hF, hK1⟩ := qd hF
 refine qA (qW [(0, _), (1, _), (5, _)] ⟨rfl, rfl, rfl, trivial⟩ ?_)
 refine qG (fun m e w' => ∃ (i1 : Int), qep a b m i1 = some o1 ∧ e = [(0, .slice p1 a.length k1), (1, .slice p2 b.length k2), (5, .int .i64 i1)] ∧ SH w w' []) n ⟨_, hF, rfl, h⟩ ?_
 rintro m1 e1 w1 ⟨i1, hF, rfl, h⟩
 rcases m1 with _ | m1
 ·rw [qep] at hF
  cases hF
 rw [qep] at hF
 refine zSSR (zp4 rfl (qb ?_))
 refine qp rfl hF ?_ ?_ <;> intro hF
 ·refine zKSB (qbl ?_)
  refine qb3 rfl (by kernel_rfl) ?_
  refine zd2 rfl ?_
  obtain ⟨y1, hy1, hF⟩ := qd hF
  have he1 := qg hy1
  obtain ⟨b1, o_1, q1, cs3, hp1, hq1, -, hr1, hc3⟩ := s1.at hy1
  obtain rfl := qbx hr1
  refine zdxe hp1 hq1 he1 rfl ?_
  refine zdc 0 (hc3.below h.below) rfl ?_
  refine zd2 rfl ?_
  obtain ⟨y2, hy2, hF⟩ := qd hF
  have he2 := qg hy2
  obtain ⟨b2, o_2, q2, cs4, hp2, hq2, -, hr2, hc4⟩ := s2.at hy2
  obtain rfl := qbx hr2
  refine zdxe hp2 hq2 he2 rfl ?_
  refine zdc 0 (hc4.below h.below) rfl ?_
  obtain ⟨r1, hr3, hF⟩ := qd hF
  refine qb7 r1 (vsB _) call200 (fun _ hb => qm0 (qhX y1) (qhX y2) hr3) rfl rfl rfl rfl ?_
  refine zd1 rfl ?_
  refine qaR (fun w2 hb => ?_)
  replace h := h.ext hb
  clear hb
  refine qp rfl hF ?_ ?_ <;> intro hF
  ·refine zSR (zp1 rfl (qb ?_))
   obtain rfl := qj hF; replace hF := hK1
   exact qx qc h hF ⟨rfl, trivial⟩
  exact zKER (zp3 rfl (qb (qy m1 [(0, _), (1, _), (5, _)] (Nat.lt_succ_self m1) ⟨rfl, rfl, rfl, trivial⟩ ⟨_, hF, rfl, h⟩)))
 refine qF rfl ?_
 obtain rfl := qj hF; replace hF := hK1
 exact zSR (zp1 rfl (qb (qx qc h hF ⟨rfl, trivial⟩)))

def qgd (n : Nat) (a : qJ) (b : qJ) : Option Bool :=
 (qa4 n a.Slews b.Slews).bind fun r1 =>
 bif (!r1) then
  some false
 else
  (qa4 n a.Loads b.Loads).bind fun r2 =>
  bif (!r2) then
   some false
  else
   (qa4 n a.Values b.Values).bind fun r3 =>
   bif (!r3) then
    some false
   else
    some true

theorem qlJ {n : Nat} {w : World} {a : qJ} {b : qJ} {cs1 : List Value} (ha1 : GoT.R w (old w) a cs1) {cs2 : List Value} (ha2 : GoT.R w (old w) b cs2) {r : Bool} (hF : qgd n a b = some r) : RetV Tryz.prog 226 [GoT.v qJ cs1, GoT.v qJ cs2] w r := by
 obtain ⟨p1, k1, p2, k2, p3, k3, rfl, s1, s2, s3⟩ := qbP ha1
 obtain ⟨p4, k4, p5, k5, p6, k6, rfl, s4, s5, s6⟩ := qbP ha2
 refine qf Tryz.func226 rfl (m := 23) rfl rfl (fun h => ?_)
 rw [qgd] at hF
 refine zSR (qP h rfl rfl ?_)
 intro w1 bb1 h
 refine qP h rfl rfl ?_
 intro w2 bb2 h
 refine zp1 rfl (zNSSR (zp1 rfl (zl 1 0 h rfl (zp1 rfl (zl 0 0 h rfl ?_)))))
 obtain ⟨r1, hr1, hF⟩ := qd hF
 refine qm r1 h call19 (qa7 ⟨_, _, rfl, (h.oldS s1)⟩ ⟨_, _, rfl, (h.oldS s4)⟩ hr1) rfl rfl rfl rfl ?_
 intro w3 h
 refine zp1 rfl (qb ?_)
 refine qp rfl hF ?_ ?_ <;> intro hF
 ·exact zSR (zp1 rfl (qb (qx qc h hF ⟨rfl, trivial⟩)))
 refine zKSSR (zp1 rfl (zl 1 1 h rfl (zp1 rfl (zl 0 1 h rfl ?_))))
 obtain ⟨r2, hr2, hF⟩ := qd hF
 refine qm r2 h call19 (qa7 ⟨_, _, rfl, (h.oldS s2)⟩ ⟨_, _, rfl, (h.oldS s5)⟩ hr2) rfl rfl rfl rfl ?_
 intro w4 h
 refine zp1 rfl (qb ?_)
 refine qp rfl hF ?_ ?_ <;> intro hF
 ·exact zSR (zp1 rfl (qb (qx qc h hF ⟨rfl, trivial⟩)))
 refine zKSSR (zp1 rfl (zl 1 2 h rfl (zp1 rfl (zl 0 2 h rfl ?_))))
 obtain ⟨r3, hr3, hF⟩ := qd hF
 refine qm r3 h call19 (qa7 ⟨_, _, rfl, (h.oldS s3)⟩ ⟨_, _, rfl, (h.oldS s6)⟩ hr3) rfl rfl rfl rfl ?_
 intro w5 h
 refine zp1 rfl (qb ?_)
 refine qp rfl hF ?_ ?_ <;> intro hF
 ·exact zSR (zp1 rfl (qb (qx qc h hF ⟨rfl, trivial⟩)))
 exact zKSR (zp1 rfl (qb (qx qc h hF ⟨rfl, trivial⟩)))

def qdq (a : (List qJ)) (b : (List qJ)) : Nat → Int → Option (Flow Bool Int)
 | 0, _ => none
 | n + 1, i1 =>
  bif decide (i1 < (a.length : Int)) then
   (idx a i1).bind fun y1 =>
   (idx b i1).bind fun y2 =>
   (qgd n y1 y2).bind fun r1 =>
   bif (!r1) then
    some (.ret false)
   else
    qdq a b n (W64 (i1 + 1))
  else
   some (.nxt i1)

def qfK (n : Nat) (a : (List qJ)) (b : (List qJ)) : Option Bool :=
 bif ((a.length : Int) != (b.length : Int)) then
  some false
 else
  (qdq a b n 0).bind fun o => match o with
  | .ret r => some r
  | .nxt _ =>
   some true

theorem qjh {n : Nat} {w : World} {a : (List qJ)} {b : (List qJ)} {cs1 : List Value} (ha1 : GoT.R w (old w) a cs1) {cs2 : List Value} (ha2 : GoT.R w (old w) b cs2) {r : Bool} (hF : qfK n a b = some r) : RetV Tryz.prog 214 [GoT.v (List qJ) cs1, GoT.v (List qJ) cs2] w r := by
 obtain ⟨p1, k1, rfl, s1⟩ := ha1
 obtain ⟨p2, k2, rfl, s2⟩ := ha2
 refine qf Tryz.func214 rfl (m := 27) rfl rfl (fun h => ?_)
 rw [qfK] at hF
 refine zSR (zp1 rfl (zNSSR (zp5 rfl ?_)))
 refine qb ?_
 refine qp rfl hF ?_ ?_ <;> intro hF
 ·exact zSR (zp1 rfl (qb (qx qc h hF ⟨rfl, trivial⟩)))
 refine zKSSR (zp1 rfl (qb ?_))
 obtain ⟨o1, hF, hK1⟩ := qd hF
 refine qA (qW [(0, _), (1, _), (5, _)] ⟨rfl, rfl, rfl, trivial⟩ ?_)
 refine qG (fun m e w' => ∃ (i1 : Int), qdq a b m i1 = some o1 ∧ e = [(0, .slice p1 a.length k1), (1, .slice p2 b.length k2), (5, .int .i64 i1)] ∧ SH w w' []) n ⟨_, hF, rfl, h⟩ ?_
 rintro m1 e1 w1 ⟨i1, hF, rfl, h⟩
 rcases m1 with _ | m1
 ·rw [qdq] at hF
  cases hF
 rw [qdq] at hF
 refine zSSR (zp4 rfl (qb ?_))
 refine qp rfl hF ?_ ?_ <;> intro hF
 ·refine zKSB (qbl ?_)
  refine qb3 rfl (by kernel_rfl) ?_
  refine zd2 rfl ?_
  obtain ⟨y1, hy1, hF⟩ := qd hF
  have he1 := qg hy1
  obtain ⟨b1, o_1, q1, cs3, hp1, hq1, -, hr1, hc3⟩ := s1.at hy1
  obtain ⟨p3, k3, p4, k4, p5, k5, rfl, s3, s4, s5⟩ := qbP hr1
  refine zdxe hp1 hq1 he1 rfl ?_
  refine zdc 0 (hc3.below h.below) rfl ?_
  refine zd2 rfl ?_
  obtain ⟨y2, hy2, hF⟩ := qd hF
  have he2 := qg hy2
  obtain ⟨b2, o_2, q2, cs4, hp2, hq2, -, hr2, hc4⟩ := s2.at hy2
  obtain ⟨p6, k6, p7, k7, p8, k8, rfl, s6, s7, s8⟩ := qbP hr2
  refine zdxe hp2 hq2 he2 rfl ?_
  refine zdc 0 (hc4.below h.below) rfl ?_
  obtain ⟨r1, hr3, hF⟩ := qd hF
  refine qb7 r1 (vsB _) call226 (fun _ hb => qlJ (qhJ y1 ((h.ext hb).oldS s3) ((h.ext hb).oldS s4) ((h.ext hb).oldS s5)) (qhJ y2 ((h.ext hb).oldS s6) ((h.ext hb).oldS s7) ((h.ext hb).oldS s8)) hr3) rfl rfl rfl rfl ?_
  refine zd1 rfl ?_
  refine qaR (fun w2 hb => ?_)
  replace h := h.ext hb
  clear hb
  refine qp rfl hF ?_ ?_ <;> intro hF
  ·refine zSR (zp1 rfl (qb ?_))
   obtain rfl := qj hF; replace hF := hK1
   exact qx qc h hF ⟨rfl, trivial⟩
  exact zKER (zp3 rfl (qb (qy m1 [(0, _), (1, _), (5, _)] (Nat.lt_succ_self m1) ⟨rfl, rfl, rfl, trivial⟩ ⟨_, hF, rfl, h⟩)))
 refine qF rfl ?_
 obtain rfl := qj hF; replace hF := hK1
 exact zSR (zp1 rfl (qb (qx qc h hF ⟨rfl, trivial⟩)))

def qhG (n : Nat) (a : qah) (b : qah) : Option Bool :=
 bif (a.Kind != b.Kind) then
  some false
 else
  bif (a.From != b.From) then
   some false
  else
   bif (a.To != b.To) then
    some false
   else
    bif (a.Sense != b.Sense) then
     some false
    else
     (qfK n a.Delay b.Delay).bind fun r1 =>
     bif (!r1) then
      some false
     else
      (qfK n a.Slew b.Slew).bind fun r2 =>
      bif (!r2) then
       some false
      else
       some true

theorem qna {n : Nat} {w : World} {a : qah} {b : qah} {cs1 : List Value} (ha1 : GoT.R w (old w) a cs1) {cs2 : List Value} (ha2 : GoT.R w (old w) b cs2) {r : Bool} (hF : qhG n a b = some r) : RetV Tryz.prog 201 [GoT.v qah cs1, GoT.v qah cs2] w r := by
 obtain ⟨p1, k1, p2, k2, rfl, s1, s2⟩ := qaD ha1
 obtain ⟨p3, k3, p4, k4, rfl, s3, s4⟩ := qaD ha2
 refine qf Tryz.func201 rfl (m := 37) rfl rfl (fun h => ?_)
 rw [qhG] at hF
 refine zSR (qP h rfl rfl ?_)
 intro w1 bb1 h
 refine qP h rfl rfl ?_
 intro w2 bb2 h
 refine zp1 rfl (zNSSR (zp1 rfl (zl 1 0 h rfl (zp1 rfl (zl 0 0 h rfl (zp1 rfl (qb ?_)))))))
 refine qp rfl hF ?_ ?_ <;> intro hF
 ·exact zSR (zp1 rfl (qb (qx qc h hF ⟨rfl, trivial⟩)))
 refine zKSSR (zp1 rfl (zl 1 1 h rfl (zp1 rfl (zl 0 1 h rfl (zp1 rfl (qb ?_))))))
 refine qp rfl hF ?_ ?_ <;> intro hF
 ·exact zSR (zp1 rfl (qb (qx qc h hF ⟨rfl, trivial⟩)))
 refine zKSSR (zp1 rfl (zl 1 2 h rfl (zp1 rfl (zl 0 2 h rfl (zp1 rfl (qb ?_))))))
 refine qp rfl hF ?_ ?_ <;> intro hF
 ·exact zSR (zp1 rfl (qb (qx qc h hF ⟨rfl, trivial⟩)))
 refine zKSSR (zp1 rfl (zl 1 3 h rfl (zp1 rfl (zl 0 3 h rfl (zp1 rfl (qb ?_))))))
 refine qp rfl hF ?_ ?_ <;> intro hF
 ·exact zSR (zp1 rfl (qb (qx qc h hF ⟨rfl, trivial⟩)))
 refine zKSSR (zp1 rfl (zl 1 4 h rfl (zp1 rfl (zl 0 4 h rfl ?_))))
 obtain ⟨r1, hr1, hF⟩ := qd hF
 refine qm r1 h call214 (qjh ⟨_, _, rfl, (h.oldS s1)⟩ ⟨_, _, rfl, (h.oldS s3)⟩ hr1) rfl rfl rfl rfl ?_
 intro w3 h
 refine zp1 rfl (qb ?_)
 refine qp rfl hF ?_ ?_ <;> intro hF
 ·exact zSR (zp1 rfl (qb (qx qc h hF ⟨rfl, trivial⟩)))
 refine zKSSR (zp1 rfl (zl 1 5 h rfl (zp1 rfl (zl 0 5 h rfl ?_))))
 obtain ⟨r2, hr2, hF⟩ := qd hF
 refine qm r2 h call214 (qjh ⟨_, _, rfl, (h.oldS s2)⟩ ⟨_, _, rfl, (h.oldS s4)⟩ hr2) rfl rfl rfl rfl ?_
 intro w4 h
 refine zp1 rfl (qb ?_)
 refine qp rfl hF ?_ ?_ <;> intro hF
 ·exact zSR (zp1 rfl (qb (qx qc h hF ⟨rfl, trivial⟩)))
 exact zKSR (zp1 rfl (qb (qx qc h hF ⟨rfl, trivial⟩)))

def qew (a : (List qah)) (b : (List qah)) : Nat → Int → Option (Flow Bool Int)
 | 0, _ => none
 | n + 1, i1 =>
  bif decide (i1 < (a.length : Int)) then
   (idx a i1).bind fun y1 =>
   (idx b i1).bind fun y2 =>
   (qhG n y1 y2).bind fun r1 =>
   bif (!r1) then
    some (.ret false)
   else
    qew a b n (W64 (i1 + 1))
  else
   some (.nxt i1)

def qhU (n : Nat) (a : (List qah)) (b : (List qah)) : Option Bool :=
 bif ((a.length : Int) != (b.length : Int)) then
  some false
 else
  (qew a b n 0).bind fun o => match o with
  | .ret r => some r
  | .nxt _ =>
   some true

theorem qmk {n : Nat} {w : World} {a : (List qah)} {b : (List qah)} {cs1 : List Value} (ha1 : GoT.R w (old w) a cs1) {cs2 : List Value} (ha2 : GoT.R w (old w) b cs2) {r : Bool} (hF : qhU n a b = some r) : RetV Tryz.prog 174 [GoT.v (List qah) cs1, GoT.v (List qah) cs2] w r := by
 obtain ⟨p1, k1, rfl, s1⟩ := ha1
 obtain ⟨p2, k2, rfl, s2⟩ := ha2
 refine qf Tryz.func174 rfl (m := 27) rfl rfl (fun h => ?_)
 rw [qhU] at hF
 refine zSR (zp1 rfl (zNSSR (zp5 rfl ?_)))
 refine qb ?_
 refine qp rfl hF ?_ ?_ <;> intro hF
 ·exact zSR (zp1 rfl (qb (qx qc h hF ⟨rfl, trivial⟩)))
 refine zKSSR (zp1 rfl (qb ?_))
 obtain ⟨o1, hF, hK1⟩ := qd hF
 refine qA (qW [(0, _), (1, _), (5, _)] ⟨rfl, rfl, rfl, trivial⟩ ?_)
 refine qG (fun m e w' => ∃ (i1 : Int), qew a b m i1 = some o1 ∧ e = [(0, .slice p1 a.length k1), (1, .slice p2 b.length k2), (5, .int .i64 i1)] ∧ SH w w' []) n ⟨_, hF, rfl, h⟩ ?_
 rintro m1 e1 w1 ⟨i1, hF, rfl, h⟩
 rcases m1 with _ | m1
 ·rw [qew] at hF
  cases hF
 rw [qew] at hF
 refine zSSR (zp4 rfl (qb ?_))
 refine qp rfl hF ?_ ?_ <;> intro hF
 ·refine zKSB (qbl ?_)
  refine qb3 rfl (by kernel_rfl) ?_
  refine zd2 rfl ?_
  obtain ⟨y1, hy1, hF⟩ := qd hF
  have he1 := qg hy1
  obtain ⟨b1, o_1, q1, cs3, hp1, hq1, -, hr1, hc3⟩ := s1.at hy1
  obtain ⟨p3, k3, p4, k4, rfl, s3, s4⟩ := qaD hr1
  refine zdxe hp1 hq1 he1 rfl ?_
  refine zdc 0 (hc3.below h.below) rfl ?_
  refine zd2 rfl ?_
  obtain ⟨y2, hy2, hF⟩ := qd hF
  have he2 := qg hy2
  obtain ⟨b2, o_2, q2, cs4, hp2, hq2, -, hr2, hc4⟩ := s2.at hy2
  obtain ⟨p5, k5, p6, k6, rfl, s5, s6⟩ := qaD hr2
  refine zdxe hp2 hq2 he2 rfl ?_
  refine zdc 0 (hc4.below h.below) rfl ?_
  obtain ⟨r1, hr3, hF⟩ := qd hF
  refine qb7 r1 (vsB _) call201 (fun _ hb => qna (qf5 y1 ((h.ext hb).oldS s3) ((h.ext hb).oldS s4)) (qf5 y2 ((h.ext hb).oldS s5) ((h.ext hb).oldS s6)) hr3) rfl rfl rfl rfl ?_
  refine zd1 rfl ?_
  refine qaR (fun w2 hb => ?_)
  replace h := h.ext hb
  clear hb
  refine qp rfl hF ?_ ?_ <;> intro hF
  ·refine zSR (zp1 rfl (qb ?_))
   obtain rfl := qj hF; replace hF := hK1
   exact qx qc h hF ⟨rfl, trivial⟩
  exact zKER (zp3 rfl (qb (qy m1 [(0, _), (1, _), (5, _)] (Nat.lt_succ_self m1) ⟨rfl, rfl, rfl, trivial⟩ ⟨_, hF, rfl, h⟩)))
 refine qF rfl ?_
 obtain rfl := qj hF; replace hF := hK1
 exact zSR (zp1 rfl (qb (qx qc h hF ⟨rfl, trivial⟩)))

def qg1 (n : Nat) (a : qE) (b : qE) : Option Bool :=
 bif (a.Name.toList != b.Name.toList) then
  some false
 else
  bif (a.Kind != b.Kind) then
   some false
  else
   (qhV n a.Pins b.Pins).bind fun r1 =>
   bif (!r1) then
    some false
   else
    (qhU n a.Arcs b.Arcs).bind fun r2 =>
    bif (!r2) then
     some false
    else
     (qa4 n a.Truth b.Truth).bind fun r3 =>
     bif (!r3) then
      some false
     else
      bif (a.Leak != b.Leak) then
       some false
      else
       bif (a.Energy != b.Energy) then
        some false
       else
        some true

theorem qmn {n : Nat} {w : World} {a : qE} {b : qE} {cs1 : List Value} (ha1 : GoT.R w (old w) a cs1) {cs2 : List Value} (ha2 : GoT.R w (old w) b cs2) {r : Bool} (hF : qg1 n a b = some r) : RetV Tryz.prog 130 [GoT.v qE cs1, GoT.v qE cs2] w r := by
 obtain ⟨p1, k1, p2, k2, p3, k3, rfl, s1, s2, s3⟩ := qaa ha1
 obtain ⟨p4, k4, p5, k5, p6, k6, rfl, s4, s5, s6⟩ := qaa ha2
 refine qf Tryz.func130 rfl (m := 43) rfl rfl (fun h => ?_)
 rw [qg1] at hF
 refine zSR (qP h rfl rfl ?_)
 intro w1 bb1 h
 refine qP h rfl rfl ?_
 intro w2 bb2 h
 refine zp1 rfl (zNSSR (zp1 rfl (zl 1 0 h rfl (zp1 rfl (zl 0 0 h rfl (zp1 rfl (qb ?_)))))))
 refine qp rfl hF ?_ ?_ <;> intro hF
 ·exact zSR (zp1 rfl (qb (qx qc h hF ⟨rfl, trivial⟩)))
 refine zKSSR (zp1 rfl (zl 1 1 h rfl (zp1 rfl (zl 0 1 h rfl (zp1 rfl (qb ?_))))))
 refine qp rfl hF ?_ ?_ <;> intro hF
 ·exact zSR (zp1 rfl (qb (qx qc h hF ⟨rfl, trivial⟩)))
 refine zKSSR (zp1 rfl (zl 1 2 h rfl (zp1 rfl (zl 0 2 h rfl ?_))))
 obtain ⟨r1, hr1, hF⟩ := qd hF
 refine qm r1 h call173 (qmM ⟨_, _, rfl, (h.oldS s1)⟩ ⟨_, _, rfl, (h.oldS s4)⟩ hr1) rfl rfl rfl rfl ?_
 intro w3 h
 refine zp1 rfl (qb ?_)
 refine qp rfl hF ?_ ?_ <;> intro hF
 ·exact zSR (zp1 rfl (qb (qx qc h hF ⟨rfl, trivial⟩)))
 refine zKSSR (zp1 rfl (zl 1 3 h rfl (zp1 rfl (zl 0 3 h rfl ?_))))
 obtain ⟨r2, hr2, hF⟩ := qd hF
 refine qm r2 h call174 (qmk ⟨_, _, rfl, (h.oldS s2)⟩ ⟨_, _, rfl, (h.oldS s5)⟩ hr2) rfl rfl rfl rfl ?_
 intro w4 h
 refine zp1 rfl (qb ?_)
 refine qp rfl hF ?_ ?_ <;> intro hF
 ·exact zSR (zp1 rfl (qb (qx qc h hF ⟨rfl, trivial⟩)))
 refine zKSSR (zp1 rfl (zl 1 4 h rfl (zp1 rfl (zl 0 4 h rfl ?_))))
 obtain ⟨r3, hr3, hF⟩ := qd hF
 refine qm r3 h call19 (qa7 ⟨_, _, rfl, (h.oldS s3)⟩ ⟨_, _, rfl, (h.oldS s6)⟩ hr3) rfl rfl rfl rfl ?_
 intro w5 h
 refine zp1 rfl (qb ?_)
 refine qp rfl hF ?_ ?_ <;> intro hF
 ·exact zSR (zp1 rfl (qb (qx qc h hF ⟨rfl, trivial⟩)))
 refine zKSSR (zp1 rfl (zl 1 5 h rfl (zp1 rfl (zl 0 5 h rfl (zp1 rfl (qb ?_))))))
 refine qp rfl hF ?_ ?_ <;> intro hF
 ·exact zSR (zp1 rfl (qb (qx qc h hF ⟨rfl, trivial⟩)))
 refine zKSSR (zp1 rfl (zl 1 6 h rfl (zp1 rfl (zl 0 6 h rfl (zp1 rfl (qb ?_))))))
 refine qp rfl hF ?_ ?_ <;> intro hF
 ·exact zSR (zp1 rfl (qb (qx qc h hF ⟨rfl, trivial⟩)))
 exact zKSR (zp1 rfl (qb (qx qc h hF ⟨rfl, trivial⟩)))

def qdT (a : (List qE)) (b : (List qE)) : Nat → Int → Option (Flow Bool Int)
 | 0, _ => none
 | n + 1, i1 =>
  bif decide (i1 < (a.length : Int)) then
   (idx a i1).bind fun y1 =>
   (idx b i1).bind fun y2 =>
   (qg1 n y1 y2).bind fun r1 =>
   bif (!r1) then
    some (.ret false)
   else
    qdT a b n (W64 (i1 + 1))
  else
   some (.nxt i1)

def qhm (n : Nat) (a : (List qE)) (b : (List qE)) : Option Bool :=
 bif ((a.length : Int) != (b.length : Int)) then
  some false
 else
  (qdT a b n 0).bind fun o => match o with
  | .ret r => some r
  | .nxt _ =>
   some true

theorem qlX {n : Nat} {w : World} {a : (List qE)} {b : (List qE)} {cs1 : List Value} (ha1 : GoT.R w (old w) a cs1) {cs2 : List Value} (ha2 : GoT.R w (old w) b cs2) {r : Bool} (hF : qhm n a b = some r) : RetV Tryz.prog 92 [GoT.v (List qE) cs1, GoT.v (List qE) cs2] w r := by
 obtain ⟨p1, k1, rfl, s1⟩ := ha1
 obtain ⟨p2, k2, rfl, s2⟩ := ha2
 refine qf Tryz.func92 rfl (m := 27) rfl rfl (fun h => ?_)
 rw [qhm] at hF
 refine zSR (zp1 rfl (zNSSR (zp5 rfl ?_)))
 refine qb ?_
 refine qp rfl hF ?_ ?_ <;> intro hF
 ·exact zSR (zp1 rfl (qb (qx qc h hF ⟨rfl, trivial⟩)))
 refine zKSSR (zp1 rfl (qb ?_))
 obtain ⟨o1, hF, hK1⟩ := qd hF
 refine qA (qW [(0, _), (1, _), (5, _)] ⟨rfl, rfl, rfl, trivial⟩ ?_)
 refine qG (fun m e w' => ∃ (i1 : Int), qdT a b m i1 = some o1 ∧ e = [(0, .slice p1 a.length k1), (1, .slice p2 b.length k2), (5, .int .i64 i1)] ∧ SH w w' []) n ⟨_, hF, rfl, h⟩ ?_
 rintro m1 e1 w1 ⟨i1, hF, rfl, h⟩
 rcases m1 with _ | m1
 ·rw [qdT] at hF
  cases hF
 rw [qdT] at hF
 refine zSSR (zp4 rfl (qb ?_))
 refine qp rfl hF ?_ ?_ <;> intro hF
 ·refine zKSB (qbl ?_)
  refine qb3 rfl (by kernel_rfl) ?_
  refine zd2 rfl ?_
  obtain ⟨y1, hy1, hF⟩ := qd hF
  have he1 := qg hy1
  obtain ⟨b1, o_1, q1, cs3, hp1, hq1, -, hr1, hc3⟩ := s1.at hy1
  obtain ⟨p3, k3, p4, k4, p5, k5, rfl, s3, s4, s5⟩ := qaa hr1
  refine zdxe hp1 hq1 he1 rfl ?_
  refine zdc 0 (hc3.below h.below) rfl ?_
  refine zd2 rfl ?_
  obtain ⟨y2, hy2, hF⟩ := qd hF
  have he2 := qg hy2
  obtain ⟨b2, o_2, q2, cs4, hp2, hq2, -, hr2, hc4⟩ := s2.at hy2
  obtain ⟨p6, k6, p7, k7, p8, k8, rfl, s6, s7, s8⟩ := qaa hr2
  refine zdxe hp2 hq2 he2 rfl ?_
  refine zdc 0 (hc4.below h.below) rfl ?_
  obtain ⟨r1, hr3, hF⟩ := qd hF
  refine qb7 r1 (vsB _) call130 (fun _ hb => qmn (qgW y1 ((h.ext hb).oldS s3) ((h.ext hb).oldS s4) ((h.ext hb).oldS s5)) (qgW y2 ((h.ext hb).oldS s6) ((h.ext hb).oldS s7) ((h.ext hb).oldS s8)) hr3) rfl rfl rfl rfl ?_
  refine zd1 rfl ?_
  refine qaR (fun w2 hb => ?_)
  replace h := h.ext hb
  clear hb
  refine qp rfl hF ?_ ?_ <;> intro hF
  ·refine zSR (zp1 rfl (qb ?_))
   obtain rfl := qj hF; replace hF := hK1
   exact qx qc h hF ⟨rfl, trivial⟩
  exact zKER (zp3 rfl (qb (qy m1 [(0, _), (1, _), (5, _)] (Nat.lt_succ_self m1) ⟨rfl, rfl, rfl, trivial⟩ ⟨_, hF, rfl, h⟩)))
 refine qF rfl ?_
 obtain rfl := qj hF; replace hF := hK1
 exact zSR (zp1 rfl (qb (qx qc h hF ⟨rfl, trivial⟩)))

def qfY (n : Nat) (a : qw) (b : qw) : Option Bool :=
 (qhm n a.Cells b.Cells).bind fun r1 =>
 bif (!r1) then
  some false
 else
  some true

theorem qkR {n : Nat} {w : World} {a : qw} {b : qw} {cs1 : List Value} (ha1 : GoT.R w (old w) a cs1) {cs2 : List Value} (ha2 : GoT.R w (old w) b cs2) {r : Bool} (hF : qfY n a b = some r) : RetV Tryz.prog 51 [GoT.v qw cs1, GoT.v qw cs2] w r := by
 obtain ⟨p1, k1, rfl, s1⟩ := qbB ha1
 obtain ⟨p2, k2, rfl, s2⟩ := qbB ha2
 refine qf Tryz.func51 rfl (m := 11) rfl rfl (fun h => ?_)
 rw [qfY] at hF
 refine zSR (qP h rfl rfl ?_)
 intro w1 bb1 h
 refine qP h rfl rfl ?_
 intro w2 bb2 h
 refine zp1 rfl (zNSSR (zp1 rfl (zl 1 0 h rfl (zp1 rfl (zl 0 0 h rfl ?_)))))
 obtain ⟨r1, hr1, hF⟩ := qd hF
 refine qm r1 h call92 (qlX ⟨_, _, rfl, (h.oldS s1)⟩ ⟨_, _, rfl, (h.oldS s2)⟩ hr1) rfl rfl rfl rfl ?_
 intro w3 h
 refine zp1 rfl (qb ?_)
 refine qp rfl hF ?_ ?_ <;> intro hF
 ·exact zSR (zp1 rfl (qb (qx qc h hF ⟨rfl, trivial⟩)))
 exact zKSR (zp1 rfl (qb (qx qc h hF ⟨rfl, trivial⟩)))

def qeD (n : Nat) (a : qr) (b : qr) : Option Bool :=
 bif (a.Name.toList != b.Name.toList) then
  some false
 else
  bif (a.Cell != b.Cell) then
   some false
  else
   (qa4 n a.Nets b.Nets).bind fun r1 =>
   bif (!r1) then
    some false
   else
    some true

theorem qkC {n : Nat} {w : World} {a : qr} {b : qr} {cs1 : List Value} (ha1 : GoT.R w (old w) a cs1) {cs2 : List Value} (ha2 : GoT.R w (old w) b cs2) {r : Bool} (hF : qeD n a b = some r) : RetV Tryz.prog 131 [GoT.v qr cs1, GoT.v qr cs2] w r := by
 obtain ⟨p1, k1, rfl, s1⟩ := qab ha1
 obtain ⟨p2, k2, rfl, s2⟩ := qab ha2
 refine qf Tryz.func131 rfl (m := 21) rfl rfl (fun h => ?_)
 rw [qeD] at hF
 refine zSR (qP h rfl rfl ?_)
 intro w1 bb1 h
 refine qP h rfl rfl ?_
 intro w2 bb2 h
 refine zp1 rfl (zNSSR (zp1 rfl (zl 1 0 h rfl (zp1 rfl (zl 0 0 h rfl (zp1 rfl (qb ?_)))))))
 refine qp rfl hF ?_ ?_ <;> intro hF
 ·exact zSR (zp1 rfl (qb (qx qc h hF ⟨rfl, trivial⟩)))
 refine zKSSR (zp1 rfl (zl 1 1 h rfl (zp1 rfl (zl 0 1 h rfl (zp1 rfl (qb ?_))))))
 refine qp rfl hF ?_ ?_ <;> intro hF
 ·exact zSR (zp1 rfl (qb (qx qc h hF ⟨rfl, trivial⟩)))
 refine zKSSR (zp1 rfl (zl 1 2 h rfl (zp1 rfl (zl 0 2 h rfl ?_))))
 obtain ⟨r1, hr1, hF⟩ := qd hF
 refine qm r1 h call19 (qa7 ⟨_, _, rfl, (h.oldS s1)⟩ ⟨_, _, rfl, (h.oldS s2)⟩ hr1) rfl rfl rfl rfl ?_
 intro w3 h
 refine zp1 rfl (qb ?_)
 refine qp rfl hF ?_ ?_ <;> intro hF
 ·exact zSR (zp1 rfl (qb (qx qc h hF ⟨rfl, trivial⟩)))
 exact zKSR (zp1 rfl (qb (qx qc h hF ⟨rfl, trivial⟩)))

def qcr (a : (List qr)) (b : (List qr)) : Nat → Int → Option (Flow Bool Int)
 | 0, _ => none
 | n + 1, i1 =>
  bif decide (i1 < (a.length : Int)) then
   (idx a i1).bind fun y1 =>
   (idx b i1).bind fun y2 =>
   (qeD n y1 y2).bind fun r1 =>
   bif (!r1) then
    some (.ret false)
   else
    qcr a b n (W64 (i1 + 1))
  else
   some (.nxt i1)

def qfg (n : Nat) (a : (List qr)) (b : (List qr)) : Option Bool :=
 bif ((a.length : Int) != (b.length : Int)) then
  some false
 else
  (qcr a b n 0).bind fun o => match o with
  | .ret r => some r
  | .nxt _ =>
   some true

theorem qkj {n : Nat} {w : World} {a : (List qr)} {b : (List qr)} {cs1 : List Value} (ha1 : GoT.R w (old w) a cs1) {cs2 : List Value} (ha2 : GoT.R w (old w) b cs2) {r : Bool} (hF : qfg n a b = some r) : RetV Tryz.prog 93 [GoT.v (List qr) cs1, GoT.v (List qr) cs2] w r := by
 obtain ⟨p1, k1, rfl, s1⟩ := ha1
 obtain ⟨p2, k2, rfl, s2⟩ := ha2
 refine qf Tryz.func93 rfl (m := 27) rfl rfl (fun h => ?_)
 rw [qfg] at hF
 refine zSR (zp1 rfl (zNSSR (zp5 rfl ?_)))
 refine qb ?_
 refine qp rfl hF ?_ ?_ <;> intro hF
 ·exact zSR (zp1 rfl (qb (qx qc h hF ⟨rfl, trivial⟩)))
 refine zKSSR (zp1 rfl (qb ?_))
 obtain ⟨o1, hF, hK1⟩ := qd hF
 refine qA (qW [(0, _), (1, _), (5, _)] ⟨rfl, rfl, rfl, trivial⟩ ?_)
 refine qG (fun m e w' => ∃ (i1 : Int), qcr a b m i1 = some o1 ∧ e = [(0, .slice p1 a.length k1), (1, .slice p2 b.length k2), (5, .int .i64 i1)] ∧ SH w w' []) n ⟨_, hF, rfl, h⟩ ?_
 rintro m1 e1 w1 ⟨i1, hF, rfl, h⟩
 rcases m1 with _ | m1
 ·rw [qcr] at hF
  cases hF
 rw [qcr] at hF
 refine zSSR (zp4 rfl (qb ?_))
 refine qp rfl hF ?_ ?_ <;> intro hF
 ·refine zKSB (qbl ?_)
  refine qb3 rfl (by kernel_rfl) ?_
  refine zd2 rfl ?_
  obtain ⟨y1, hy1, hF⟩ := qd hF
  have he1 := qg hy1
  obtain ⟨b1, o_1, q1, cs3, hp1, hq1, -, hr1, hc3⟩ := s1.at hy1
  obtain ⟨p3, k3, rfl, s3⟩ := qab hr1
  refine zdxe hp1 hq1 he1 rfl ?_
  refine zdc 0 (hc3.below h.below) rfl ?_
  refine zd2 rfl ?_
  obtain ⟨y2, hy2, hF⟩ := qd hF
  have he2 := qg hy2
  obtain ⟨b2, o_2, q2, cs4, hp2, hq2, -, hr2, hc4⟩ := s2.at hy2
  obtain ⟨p4, k4, rfl, s4⟩ := qab hr2
  refine zdxe hp2 hq2 he2 rfl ?_
  refine zdc 0 (hc4.below h.below) rfl ?_
  obtain ⟨r1, hr3, hF⟩ := qd hF
  refine qb7 r1 (vsB _) call131 (fun _ hb => qkC (qfI y1 ((h.ext hb).oldS s3)) (qfI y2 ((h.ext hb).oldS s4)) hr3) rfl rfl rfl rfl ?_
  refine zd1 rfl ?_
  refine qaR (fun w2 hb => ?_)
  replace h := h.ext hb
  clear hb
  refine qp rfl hF ?_ ?_ <;> intro hF
  ·refine zSR (zp1 rfl (qb ?_))
   obtain rfl := qj hF; replace hF := hK1
   exact qx qc h hF ⟨rfl, trivial⟩
  exact zKER (zp3 rfl (qb (qy m1 [(0, _), (1, _), (5, _)] (Nat.lt_succ_self m1) ⟨rfl, rfl, rfl, trivial⟩ ⟨_, hF, rfl, h⟩)))
 refine qF rfl ?_
 obtain rfl := qj hF; replace hF := hK1
 exact zSR (zp1 rfl (qb (qx qc h hF ⟨rfl, trivial⟩)))

def qcV (a : (List ByteArray)) (b : (List ByteArray)) : Nat → Int → Option (Flow Bool Int)
 | 0, _ => none
 | n + 1, i1 =>
  bif decide (i1 < (a.length : Int)) then
   (idx a i1).bind fun y1 =>
   (idx b i1).bind fun y2 =>
   bif (y1.toList != y2.toList) then
    some (.ret false)
   else
    qcV a b n (W64 (i1 + 1))
  else
   some (.nxt i1)

def qf2 (n : Nat) (a : (List ByteArray)) (b : (List ByteArray)) : Option Bool :=
 bif ((a.length : Int) != (b.length : Int)) then
  some false
 else
  (qcV a b n 0).bind fun o => match o with
  | .ret r => some r
  | .nxt _ =>
   some true

theorem qk8 {n : Nat} {w : World} {a : (List ByteArray)} {b : (List ByteArray)} {cs1 : List Value} (ha1 : GoT.R w (old w) a cs1) {cs2 : List Value} (ha2 : GoT.R w (old w) b cs2) {r : Bool} (hF : qf2 n a b = some r) : RetV Tryz.prog 94 [GoT.v (List ByteArray) cs1, GoT.v (List ByteArray) cs2] w r := by
 obtain ⟨p1, k1, rfl, s1⟩ := ha1
 obtain ⟨p2, k2, rfl, s2⟩ := ha2
 refine qf Tryz.func94 rfl (m := 26) rfl rfl (fun h => ?_)
 rw [qf2] at hF
 refine zSR (zp1 rfl (zNSSR (zp5 rfl ?_)))
 refine qb ?_
 refine qp rfl hF ?_ ?_ <;> intro hF
 ·exact zSR (zp1 rfl (qb (qx qc h hF ⟨rfl, trivial⟩)))
 refine zKSSR (zp1 rfl (qb ?_))
 obtain ⟨o1, hF, hK1⟩ := qd hF
 refine qA (qW [(0, _), (1, _), (5, _)] ⟨rfl, rfl, rfl, trivial⟩ ?_)
 refine qG (fun m e w' => ∃ (i1 : Int), qcV a b m i1 = some o1 ∧ e = [(0, .slice p1 a.length k1), (1, .slice p2 b.length k2), (5, .int .i64 i1)] ∧ SH w w' []) n ⟨_, hF, rfl, h⟩ ?_
 rintro m1 e1 w1 ⟨i1, hF, rfl, h⟩
 rcases m1 with _ | m1
 ·rw [qcV] at hF
  cases hF
 rw [qcV] at hF
 refine zSSR (zp4 rfl (qb ?_))
 refine qp rfl hF ?_ ?_ <;> intro hF
 ·refine zKSB (qbl ?_)
  refine qb3 rfl (by kernel_rfl) ?_
  refine zd2 rfl ?_
  obtain ⟨y1, hy1, hF⟩ := qd hF
  have he1 := qg hy1
  obtain ⟨b1, o_1, q1, cs3, hp1, hq1, -, hr1, hc3⟩ := s1.at hy1
  obtain rfl := hr1
  refine zdxe hp1 hq1 he1 rfl ?_
  refine zdc 0 (hc3.below h.below) rfl ?_
  refine zd2 rfl ?_
  obtain ⟨y2, hy2, hF⟩ := qd hF
  have he2 := qg hy2
  obtain ⟨b2, o_2, q2, cs4, hp2, hq2, -, hr2, hc4⟩ := s2.at hy2
  obtain rfl := hr2
  refine zdxe hp2 hq2 he2 rfl ?_
  refine zdc 0 (hc4.below h.below) rfl ?_
  refine zd1 rfl ?_
  refine qaR (fun w2 hb => ?_)
  replace h := h.ext hb
  clear hb
  refine qp rfl hF ?_ ?_ <;> intro hF
  ·refine zSR (zp1 rfl (qb ?_))
   obtain rfl := qj hF; replace hF := hK1
   exact qx qc h hF ⟨rfl, trivial⟩
  exact zKER (zp3 rfl (qb (qy m1 [(0, _), (1, _), (5, _)] (Nat.lt_succ_self m1) ⟨rfl, rfl, rfl, trivial⟩ ⟨_, hF, rfl, h⟩)))
 refine qF rfl ?_
 obtain rfl := qj hF; replace hF := hK1
 exact zSR (zp1 rfl (qb (qx qc h hF ⟨rfl, trivial⟩)))

def qgV (_ : Nat) (a : qaw) (b : qaw) : Option Bool :=
 bif (a.Name.toList != b.Name.toList) then
  some false
 else
  bif (a.Dir != b.Dir) then
   some false
  else
   bif (a.Net != b.Net) then
    some false
   else
    some true

theorem qmz {n : Nat} {w : World} {a : qaw} {b : qaw} {cs1 : List Value} (ha1 : GoT.R w (old w) a cs1) {cs2 : List Value} (ha2 : GoT.R w (old w) b cs2) {r : Bool} (hF : qgV n a b = some r) : RetV Tryz.prog 132 [GoT.v qaw cs1, GoT.v qaw cs2] w r := by
 obtain rfl := qbz ha1
 obtain rfl := qbz ha2
 refine qf Tryz.func132 rfl (m := 20) rfl rfl (fun h => ?_)
 rw [qgV] at hF
 refine zSR (qP h rfl rfl ?_)
 intro w1 bb1 h
 refine qP h rfl rfl ?_
 intro w2 bb2 h
 refine zp1 rfl (zNSSR (zp1 rfl (zl 1 0 h rfl (zp1 rfl (zl 0 0 h rfl (zp1 rfl (qb ?_)))))))
 refine qp rfl hF ?_ ?_ <;> intro hF
 ·exact zSR (zp1 rfl (qb (qx qc h hF ⟨rfl, trivial⟩)))
 refine zKSSR (zp1 rfl (zl 1 1 h rfl (zp1 rfl (zl 0 1 h rfl (zp1 rfl (qb ?_))))))
 refine qp rfl hF ?_ ?_ <;> intro hF
 ·exact zSR (zp1 rfl (qb (qx qc h hF ⟨rfl, trivial⟩)))
 refine zKSSR (zp1 rfl (zl 1 2 h rfl (zp1 rfl (zl 0 2 h rfl (zp1 rfl (qb ?_))))))
 refine qp rfl hF ?_ ?_ <;> intro hF
 ·exact zSR (zp1 rfl (qb (qx qc h hF ⟨rfl, trivial⟩)))
 exact zKSR (zp1 rfl (qb (qx qc h hF ⟨rfl, trivial⟩)))

def qdU (a : (List qaw)) (b : (List qaw)) : Nat → Int → Option (Flow Bool Int)
 | 0, _ => none
 | n + 1, i1 =>
  bif decide (i1 < (a.length : Int)) then
   (idx a i1).bind fun y1 =>
   (idx b i1).bind fun y2 =>
   (qgV n y1 y2).bind fun r1 =>
   bif (!r1) then
    some (.ret false)
   else
    qdU a b n (W64 (i1 + 1))
  else
   some (.nxt i1)

def qhi (n : Nat) (a : (List qaw)) (b : (List qaw)) : Option Bool :=
 bif ((a.length : Int) != (b.length : Int)) then
  some false
 else
  (qdU a b n 0).bind fun o => match o with
  | .ret r => some r
  | .nxt _ =>
   some true

theorem qlO {n : Nat} {w : World} {a : (List qaw)} {b : (List qaw)} {cs1 : List Value} (ha1 : GoT.R w (old w) a cs1) {cs2 : List Value} (ha2 : GoT.R w (old w) b cs2) {r : Bool} (hF : qhi n a b = some r) : RetV Tryz.prog 95 [GoT.v (List qaw) cs1, GoT.v (List qaw) cs2] w r := by
 obtain ⟨p1, k1, rfl, s1⟩ := ha1
 obtain ⟨p2, k2, rfl, s2⟩ := ha2
 refine qf Tryz.func95 rfl (m := 27) rfl rfl (fun h => ?_)
 rw [qhi] at hF
 refine zSR (zp1 rfl (zNSSR (zp5 rfl ?_)))
 refine qb ?_
 refine qp rfl hF ?_ ?_ <;> intro hF
 ·exact zSR (zp1 rfl (qb (qx qc h hF ⟨rfl, trivial⟩)))
 refine zKSSR (zp1 rfl (qb ?_))
 obtain ⟨o1, hF, hK1⟩ := qd hF
 refine qA (qW [(0, _), (1, _), (5, _)] ⟨rfl, rfl, rfl, trivial⟩ ?_)
 refine qG (fun m e w' => ∃ (i1 : Int), qdU a b m i1 = some o1 ∧ e = [(0, .slice p1 a.length k1), (1, .slice p2 b.length k2), (5, .int .i64 i1)] ∧ SH w w' []) n ⟨_, hF, rfl, h⟩ ?_
 rintro m1 e1 w1 ⟨i1, hF, rfl, h⟩
 rcases m1 with _ | m1
 ·rw [qdU] at hF
  cases hF
 rw [qdU] at hF
 refine zSSR (zp4 rfl (qb ?_))
 refine qp rfl hF ?_ ?_ <;> intro hF
 ·refine zKSB (qbl ?_)
  refine qb3 rfl (by kernel_rfl) ?_
  refine zd2 rfl ?_
  obtain ⟨y1, hy1, hF⟩ := qd hF
  have he1 := qg hy1
  obtain ⟨b1, o_1, q1, cs3, hp1, hq1, -, hr1, hc3⟩ := s1.at hy1
  obtain rfl := qbz hr1
  refine zdxe hp1 hq1 he1 rfl ?_
  refine zdc 0 (hc3.below h.below) rfl ?_
  refine zd2 rfl ?_
  obtain ⟨y2, hy2, hF⟩ := qd hF
  have he2 := qg hy2
  obtain ⟨b2, o_2, q2, cs4, hp2, hq2, -, hr2, hc4⟩ := s2.at hy2
  obtain rfl := qbz hr2
  refine zdxe hp2 hq2 he2 rfl ?_
  refine zdc 0 (hc4.below h.below) rfl ?_
  obtain ⟨r1, hr3, hF⟩ := qd hF
  refine qb7 r1 (vsB _) call132 (fun _ hb => qmz (qhF y1) (qhF y2) hr3) rfl rfl rfl rfl ?_
  refine zd1 rfl ?_
  refine qaR (fun w2 hb => ?_)
  replace h := h.ext hb
  clear hb
  refine qp rfl hF ?_ ?_ <;> intro hF
  ·refine zSR (zp1 rfl (qb ?_))
   obtain rfl := qj hF; replace hF := hK1
   exact qx qc h hF ⟨rfl, trivial⟩
  exact zKER (zp3 rfl (qb (qy m1 [(0, _), (1, _), (5, _)] (Nat.lt_succ_self m1) ⟨rfl, rfl, rfl, trivial⟩ ⟨_, hF, rfl, h⟩)))
 refine qF rfl ?_
 obtain rfl := qj hF; replace hF := hK1
 exact zSR (zp1 rfl (qb (qx qc h hF ⟨rfl, trivial⟩)))

def qgE (n : Nat) (a : ql) (b : ql) : Option Bool :=
 (qfg n a.Instances b.Instances).bind fun r1 =>
 bif (!r1) then
  some false
 else
  (qf2 n a.Nets b.Nets).bind fun r2 =>
  bif (!r2) then
   some false
  else
   (qhi n a.Ports b.Ports).bind fun r3 =>
   bif (!r3) then
    some false
   else
    some true

theorem qlb {n : Nat} {w : World} {a : ql} {b : ql} {cs1 : List Value} (ha1 : GoT.R w (old w) a cs1) {cs2 : List Value} (ha2 : GoT.R w (old w) b cs2) {r : Bool} (hF : qgE n a b = some r) : RetV Tryz.prog 52 [GoT.v ql cs1, GoT.v ql cs2] w r := by
 obtain ⟨p1, k1, p2, k2, p3, k3, rfl, s1, s2, s3⟩ := qaz ha1
 obtain ⟨p4, k4, p5, k5, p6, k6, rfl, s4, s5, s6⟩ := qaz ha2
 refine qf Tryz.func52 rfl (m := 23) rfl rfl (fun h => ?_)
 rw [qgE] at hF
 refine zSR (qP h rfl rfl ?_)
 intro w1 bb1 h
 refine qP h rfl rfl ?_
 intro w2 bb2 h
 refine zp1 rfl (zNSSR (zp1 rfl (zl 1 0 h rfl (zp1 rfl (zl 0 0 h rfl ?_)))))
 obtain ⟨r1, hr1, hF⟩ := qd hF
 refine qm r1 h call93 (qkj ⟨_, _, rfl, (h.oldS s1)⟩ ⟨_, _, rfl, (h.oldS s4)⟩ hr1) rfl rfl rfl rfl ?_
 intro w3 h
 refine zp1 rfl (qb ?_)
 refine qp rfl hF ?_ ?_ <;> intro hF
 ·exact zSR (zp1 rfl (qb (qx qc h hF ⟨rfl, trivial⟩)))
 refine zKSSR (zp1 rfl (zl 1 1 h rfl (zp1 rfl (zl 0 1 h rfl ?_))))
 obtain ⟨r2, hr2, hF⟩ := qd hF
 refine qm r2 h call94 (qk8 ⟨_, _, rfl, (h.oldS s2)⟩ ⟨_, _, rfl, (h.oldS s5)⟩ hr2) rfl rfl rfl rfl ?_
 intro w4 h
 refine zp1 rfl (qb ?_)
 refine qp rfl hF ?_ ?_ <;> intro hF
 ·exact zSR (zp1 rfl (qb (qx qc h hF ⟨rfl, trivial⟩)))
 refine zKSSR (zp1 rfl (zl 1 2 h rfl (zp1 rfl (zl 0 2 h rfl ?_))))
 obtain ⟨r3, hr3, hF⟩ := qd hF
 refine qm r3 h call95 (qlO ⟨_, _, rfl, (h.oldS s3)⟩ ⟨_, _, rfl, (h.oldS s6)⟩ hr3) rfl rfl rfl rfl ?_
 intro w5 h
 refine zp1 rfl (qb ?_)
 refine qp rfl hF ?_ ?_ <;> intro hF
 ·exact zSR (zp1 rfl (qb (qx qc h hF ⟨rfl, trivial⟩)))
 exact zKSR (zp1 rfl (qb (qx qc h hF ⟨rfl, trivial⟩)))

def qgX (n : Nat) (a : qaj) (b : qaj) : Option Bool :=
 (qa4 n a.Parent b.Parent).bind fun r1 =>
 bif (!r1) then
  some false
 else
  (qa4 n a.Res b.Res).bind fun r2 =>
  bif (!r2) then
   some false
  else
   (qa4 n a.Cap b.Cap).bind fun r3 =>
   bif (!r3) then
    some false
   else
    (qa4 n a.Sink b.Sink).bind fun r4 =>
    bif (!r4) then
     some false
    else
     some true

theorem qmt {n : Nat} {w : World} {a : qaj} {b : qaj} {cs1 : List Value} (ha1 : GoT.R w (old w) a cs1) {cs2 : List Value} (ha2 : GoT.R w (old w) b cs2) {r : Bool} (hF : qgX n a b = some r) : RetV Tryz.prog 96 [GoT.v qaj cs1, GoT.v qaj cs2] w r := by
 obtain ⟨p1, k1, p2, k2, p3, k3, p4, k4, rfl, s1, s2, s3, s4⟩ := qbU ha1
 obtain ⟨p5, k5, p6, k6, p7, k7, p8, k8, rfl, s5, s6, s7, s8⟩ := qbU ha2
 refine qf Tryz.func96 rfl (m := 29) rfl rfl (fun h => ?_)
 rw [qgX] at hF
 refine zSR (qP h rfl rfl ?_)
 intro w1 bb1 h
 refine qP h rfl rfl ?_
 intro w2 bb2 h
 refine zp1 rfl (zNSSR (zp1 rfl (zl 1 0 h rfl (zp1 rfl (zl 0 0 h rfl ?_)))))
 obtain ⟨r1, hr1, hF⟩ := qd hF
 refine qm r1 h call19 (qa7 ⟨_, _, rfl, (h.oldS s1)⟩ ⟨_, _, rfl, (h.oldS s5)⟩ hr1) rfl rfl rfl rfl ?_
 intro w3 h
 refine zp1 rfl (qb ?_)
 refine qp rfl hF ?_ ?_ <;> intro hF
 ·exact zSR (zp1 rfl (qb (qx qc h hF ⟨rfl, trivial⟩)))
 refine zKSSR (zp1 rfl (zl 1 1 h rfl (zp1 rfl (zl 0 1 h rfl ?_))))
 obtain ⟨r2, hr2, hF⟩ := qd hF
 refine qm r2 h call19 (qa7 ⟨_, _, rfl, (h.oldS s2)⟩ ⟨_, _, rfl, (h.oldS s6)⟩ hr2) rfl rfl rfl rfl ?_
 intro w4 h
 refine zp1 rfl (qb ?_)
 refine qp rfl hF ?_ ?_ <;> intro hF
 ·exact zSR (zp1 rfl (qb (qx qc h hF ⟨rfl, trivial⟩)))
 refine zKSSR (zp1 rfl (zl 1 2 h rfl (zp1 rfl (zl 0 2 h rfl ?_))))
 obtain ⟨r3, hr3, hF⟩ := qd hF
 refine qm r3 h call19 (qa7 ⟨_, _, rfl, (h.oldS s3)⟩ ⟨_, _, rfl, (h.oldS s7)⟩ hr3) rfl rfl rfl rfl ?_
 intro w5 h
 refine zp1 rfl (qb ?_)
 refine qp rfl hF ?_ ?_ <;> intro hF
 ·exact zSR (zp1 rfl (qb (qx qc h hF ⟨rfl, trivial⟩)))
 refine zKSSR (zp1 rfl (zl 1 3 h rfl (zp1 rfl (zl 0 3 h rfl ?_))))
 obtain ⟨r4, hr4, hF⟩ := qd hF
 refine qm r4 h call19 (qa7 ⟨_, _, rfl, (h.oldS s4)⟩ ⟨_, _, rfl, (h.oldS s8)⟩ hr4) rfl rfl rfl rfl ?_
 intro w6 h
 refine zp1 rfl (qb ?_)
 refine qp rfl hF ?_ ?_ <;> intro hF
 ·exact zSR (zp1 rfl (qb (qx qc h hF ⟨rfl, trivial⟩)))
 exact zKSR (zp1 rfl (qb (qx qc h hF ⟨rfl, trivial⟩)))

def qdW (a : (List qaj)) (b : (List qaj)) : Nat → Int → Option (Flow Bool Int)
 | 0, _ => none
 | n + 1, i1 =>
  bif decide (i1 < (a.length : Int)) then
   (idx a i1).bind fun y1 =>
   (idx b i1).bind fun y2 =>
   (qgX n y1 y2).bind fun r1 =>
   bif (!r1) then
    some (.ret false)
   else
    qdW a b n (W64 (i1 + 1))
  else
   some (.nxt i1)

def qg7 (n : Nat) (a : (List qaj)) (b : (List qaj)) : Option Bool :=
 bif ((a.length : Int) != (b.length : Int)) then
  some false
 else
  (qdW a b n 0).bind fun o => match o with
  | .ret r => some r
  | .nxt _ =>
   some true

theorem ql4 {n : Nat} {w : World} {a : (List qaj)} {b : (List qaj)} {cs1 : List Value} (ha1 : GoT.R w (old w) a cs1) {cs2 : List Value} (ha2 : GoT.R w (old w) b cs2) {r : Bool} (hF : qg7 n a b = some r) : RetV Tryz.prog 53 [GoT.v (List qaj) cs1, GoT.v (List qaj) cs2] w r := by
 obtain ⟨p1, k1, rfl, s1⟩ := ha1
 obtain ⟨p2, k2, rfl, s2⟩ := ha2
 refine qf Tryz.func53 rfl (m := 27) rfl rfl (fun h => ?_)
 rw [qg7] at hF
 refine zSR (zp1 rfl (zNSSR (zp5 rfl ?_)))
 refine qb ?_
 refine qp rfl hF ?_ ?_ <;> intro hF
 ·exact zSR (zp1 rfl (qb (qx qc h hF ⟨rfl, trivial⟩)))
 refine zKSSR (zp1 rfl (qb ?_))
 obtain ⟨o1, hF, hK1⟩ := qd hF
 refine qA (qW [(0, _), (1, _), (5, _)] ⟨rfl, rfl, rfl, trivial⟩ ?_)
 refine qG (fun m e w' => ∃ (i1 : Int), qdW a b m i1 = some o1 ∧ e = [(0, .slice p1 a.length k1), (1, .slice p2 b.length k2), (5, .int .i64 i1)] ∧ SH w w' []) n ⟨_, hF, rfl, h⟩ ?_
 rintro m1 e1 w1 ⟨i1, hF, rfl, h⟩
 rcases m1 with _ | m1
 ·rw [qdW] at hF
  cases hF
 rw [qdW] at hF
 refine zSSR (zp4 rfl (qb ?_))
 refine qp rfl hF ?_ ?_ <;> intro hF
 ·refine zKSB (qbl ?_)
  refine qb3 rfl (by kernel_rfl) ?_
  refine zd2 rfl ?_
  obtain ⟨y1, hy1, hF⟩ := qd hF
  have he1 := qg hy1
  obtain ⟨b1, o_1, q1, cs3, hp1, hq1, -, hr1, hc3⟩ := s1.at hy1
  obtain ⟨p3, k3, p4, k4, p5, k5, p6, k6, rfl, s3, s4, s5, s6⟩ := qbU hr1
  refine zdxe hp1 hq1 he1 rfl ?_
  refine zdc 0 (hc3.below h.below) rfl ?_
  refine zd2 rfl ?_
  obtain ⟨y2, hy2, hF⟩ := qd hF
  have he2 := qg hy2
  obtain ⟨b2, o_2, q2, cs4, hp2, hq2, -, hr2, hc4⟩ := s2.at hy2
  obtain ⟨p7, k7, p8, k8, p9, k9, p10, k10, rfl, s7, s8, s9, s10⟩ := qbU hr2
  refine zdxe hp2 hq2 he2 rfl ?_
  refine zdc 0 (hc4.below h.below) rfl ?_
  obtain ⟨r1, hr3, hF⟩ := qd hF
  refine qb7 r1 (vsB _) call96 (fun _ hb => qmt (qip y1 ((h.ext hb).oldS s3) ((h.ext hb).oldS s4) ((h.ext hb).oldS s5) ((h.ext hb).oldS s6)) (qip y2 ((h.ext hb).oldS s7) ((h.ext hb).oldS s8) ((h.ext hb).oldS s9) ((h.ext hb).oldS s10)) hr3) rfl rfl rfl rfl ?_
  refine zd1 rfl ?_
  refine qaR (fun w2 hb => ?_)
  replace h := h.ext hb
  clear hb
  refine qp rfl hF ?_ ?_ <;> intro hF
  ·refine zSR (zp1 rfl (qb ?_))
   obtain rfl := qj hF; replace hF := hK1
   exact qx qc h hF ⟨rfl, trivial⟩
  exact zKER (zp3 rfl (qb (qy m1 [(0, _), (1, _), (5, _)] (Nat.lt_succ_self m1) ⟨rfl, rfl, rfl, trivial⟩ ⟨_, hF, rfl, h⟩)))
 refine qF rfl ?_
 obtain rfl := qj hF; replace hF := hK1
 exact zSR (zp1 rfl (qb (qx qc h hF ⟨rfl, trivial⟩)))

def qhp (n : Nat) (a : qz) (b : qz) : Option Bool :=
 (qfY n (⟨a.Library.Cells⟩ : qw) (⟨b.Library.Cells⟩ : qw)).bind fun r1 =>
 bif (!r1) then
  some false
 else
  (qgE n (⟨a.Design.Instances, a.Design.Nets, a.Design.Ports⟩ : ql) (⟨b.Design.Instances, b.Design.Nets, b.Design.Ports⟩ : ql)).bind fun r2 =>
  bif (!r2) then
   some false
  else
   (qg7 n a.Wires b.Wires).bind fun r3 =>
   bif (!r3) then
    some false
   else
    some true

theorem ql2 {n : Nat} {w : World} {a : qz} {b : qz} {cs1 : List Value} (ha1 : GoT.R w (old w) a cs1) {cs2 : List Value} (ha2 : GoT.R w (old w) b cs2) {r : Bool} (hF : qhp n a b = some r) : RetV Tryz.prog 17 [GoT.v qz cs1, GoT.v qz cs2] w r := by
 obtain ⟨p1, k1, p2, k2, p3, k3, p4, k4, p5, k5, rfl, s1, s2, s3, s4, s5⟩ := qat ha1
 obtain ⟨p6, k6, p7, k7, p8, k8, p9, k9, p10, k10, rfl, s6, s7, s8, s9, s10⟩ := qat ha2
 refine qf Tryz.func17 rfl (m := 23) rfl rfl (fun h => ?_)
 rw [qhp] at hF
 refine zSR (qP h rfl rfl ?_)
 intro w1 bb1 h
 refine qP h rfl rfl ?_
 intro w2 bb2 h
 refine zp1 rfl (zNSSR (zp1 rfl (zl 1 0 h rfl (zp1 rfl (zl 0 0 h rfl ?_)))))
 obtain ⟨r1, hr1, hF⟩ := qd hF
 refine qm r1 h call51 (qkR (qdx (⟨a.Library.Cells⟩ : qw) (h.oldS s1)) (qdx (⟨b.Library.Cells⟩ : qw) (h.oldS s6)) hr1) rfl rfl rfl rfl ?_
 intro w3 h
 refine zp1 rfl (qb ?_)
 refine qp rfl hF ?_ ?_ <;> intro hF
 ·exact zSR (zp1 rfl (qb (qx qc h hF ⟨rfl, trivial⟩)))
 refine zKSSR (zp1 rfl (zl 1 1 h rfl (zp1 rfl (zl 0 1 h rfl ?_))))
 obtain ⟨r2, hr2, hF⟩ := qd hF
 refine qm r2 h call52 (qlb (qbf (⟨a.Design.Instances, a.Design.Nets, a.Design.Ports⟩ : ql) (h.oldS s2) (h.oldS s3) (h.oldS s4)) (qbf (⟨b.Design.Instances, b.Design.Nets, b.Design.Ports⟩ : ql) (h.oldS s7) (h.oldS s8) (h.oldS s9)) hr2) rfl rfl rfl rfl ?_
 intro w4 h
 refine zp1 rfl (qb ?_)
 refine qp rfl hF ?_ ?_ <;> intro hF
 ·exact zSR (zp1 rfl (qb (qx qc h hF ⟨rfl, trivial⟩)))
 refine zKSSR (zp1 rfl (zl 1 4 h rfl (zp1 rfl (zl 0 4 h rfl ?_))))
 obtain ⟨r3, hr3, hF⟩ := qd hF
 refine qm r3 h call53 (ql4 ⟨_, _, rfl, (h.oldS s5)⟩ ⟨_, _, rfl, (h.oldS s10)⟩ hr3) rfl rfl rfl rfl ?_
 intro w5 h
 refine zp1 rfl (qb ?_)
 refine qp rfl hF ?_ ?_ <;> intro hF
 ·exact zSR (zp1 rfl (qb (qx qc h hF ⟨rfl, trivial⟩)))
 exact zKSR (zp1 rfl (qb (qx qc h hF ⟨rfl, trivial⟩)))

def qaA (_ : Nat) (a_n : Int) (low : Int) (high : Int) : Option Bool :=
 bif decide (a_n ≥ low) then
  some (decide (a_n ≤ high))
 else
  some false

theorem qal {n : Nat} {w : World} {a_n : Int} {low : Int} {high : Int}  {r : Bool} (hF : qaA n a_n low high = some r) : RetV Tryz.prog 77 [.int .i64 a_n, .int .i64 low, .int .i64 high] w r := by
 refine qf Tryz.func77 rfl (m := 15) rfl rfl (fun h => ?_)
 rw [qaA] at hF
 refine zSR (zp1 rfl (zNSR (zp4 rfl ?_)))
 by_cases hc1 : (decide (a_n ≥ low)) = true
 ·replace hF := bifT hc1 hF
  exact qC hc1 (t := 10) rfl (qa rfl (zp1 rfl (qa rfl (zp1 rfl (qa rfl (zp3 rfl (qb (qx qc h hF ⟨rfl, trivial⟩))))))))
 replace hc1 := zb hc1
 replace hF := bifF hc1 hF
 exact qD hc1 (t := 10) rfl (zn3 rfl (zp2 rfl (qb (qx qc h hF ⟨rfl, trivial⟩))))

def qcB (s : ByteArray) : Nat → Int → Option (Flow Bool Int)
 | 0, _ => none
 | n + 1, i1 =>
  bif decide (i1 < (s.size : Int)) then
   (
    (atS s i1).bind fun y3 =>
    bif decide (y3 ≥ 97) then
     (atS s i1).bind fun y4 =>
     some (decide (y4 ≤ 122))
    else
     some false).bind fun b1 =>
   (
    (atS s i1).bind fun y1 =>
    bif decide (y1 ≥ 48) then
     (atS s i1).bind fun y2 =>
     some (decide (y2 ≤ 57))
    else
     some false).bind fun b2 =>
   bif (!b1) then
    bif b2 then
     bif (!(decide (i1 > 0))) then
      some (.ret false)
     else
      qcB s n (W64 (i1 + 1))
    else
     some (.ret false)
   else
    qcB s n (W64 (i1 + 1))
  else
   some (.nxt i1)

def qfl (n : Nat) (s : ByteArray) : Option Bool :=
 (qcB s n 0).bind fun o => match o with
 | .ret r => some r
 | .nxt _ =>
  bif decide ((s.size : Int) ≥ 1) then
   some (decide ((s.size : Int) ≤ 8))
  else
   some false

theorem qh9 {n : Nat} {w : World} {s : ByteArray}  {r : Bool} (hF : qfl n s = some r) : RetV Tryz.prog 203 [.string s] w r := by
 refine qf Tryz.func203 rfl (m := 50) rfl rfl (fun h => ?_)
 rw [qfl] at hF
 refine zSR (zp1 rfl (zNSSR (zp1 rfl (qb ?_))))
 obtain ⟨o1, hF, hK1⟩ := qd hF
 refine qA (qW [(0, _), (3, _)] ⟨rfl, rfl, trivial⟩ ?_)
 refine qG (fun m e w' => ∃ (i1 : Int), qcB s m i1 = some o1 ∧ e = [(0, .string s), (3, .int .i64 i1)] ∧ SH w w' []) n ⟨_, hF, rfl, h⟩ ?_
 rintro m1 e1 w1 ⟨i1, hF, rfl, h⟩
 rcases m1 with _ | m1
 ·rw [qcB] at hF
  cases hF
 rw [qcB] at hF
 refine zSSR (zp4 rfl (qb ?_))
 refine qp rfl hF ?_ ?_ <;> intro hF
 ·refine zKSB (qbl ?_)
  obtain ⟨KF2, hKF2, o3, hF, hK3⟩ := bindE hF
  refine qdR (fun e w' => ∃ (b1 : Bool), KF2 b1 = some o1 ∧ e = [(0, .string s), (3, .int .i64 i1), (4, .bool b1)] ∧ SH w w' []) ?_ ?_
  ·refine qB (zp2 rfl ?_)
   obtain ⟨y3, hx3, hF⟩ := qd hF
   have g3 := qjK hx3
   refine r_v (qj5 qc g3 rfl rfl rfl rfl) rfl (zp2 rfl ?_)
   by_cases hc6 : (decide (y3 ≥ 97)) = true
   ·replace hF := bifT hc6 hF
    refine qC hc6 (t := 16) rfl (qa rfl (zp1 rfl (qa rfl (zp1 rfl (qa rfl ?_)))))
    obtain ⟨y4, hx4, hF⟩ := qd hF
    have g4 := qjK hx4
    refine r_v (qj5 qc g4 rfl rfl rfl rfl) rfl (qa rfl (zp3 rfl (qb ?_)))
    obtain rfl := qj hF
    exact qu [(0, _), (3, _), (4, _)] ⟨rfl, rfl, rfl, trivial⟩ ⟨_, hK3, rfl, h⟩
   replace hc6 := zb hc6
   replace hF := bifF hc6 hF
   refine qD hc6 (t := 16) rfl (zn4 rfl (zp2 rfl (qb ?_)))
   obtain rfl := qj hF
   exact qu [(0, _), (3, _), (4, _)] ⟨rfl, rfl, rfl, trivial⟩ ⟨_, hK3, rfl, h⟩
  rintro e3 w3 ⟨b1, hF, rfl, h⟩
  subst hKF2
  refine qbl ?_
  obtain ⟨KF1, hKF1, o2, hF, hK2⟩ := bindE hF
  refine qdR (fun e w' => ∃ (b2 : Bool), KF1 b2 = some o1 ∧ e = [(0, .string s), (3, .int .i64 i1), (4, .bool b1), (5, .bool b2)] ∧ SH w w' []) ?_ ?_
  ·refine qB (zp2 rfl ?_)
   obtain ⟨y1, hx1, hF⟩ := qd hF
   have g1 := qjK hx1
   refine r_v (qj5 qc g1 rfl rfl rfl rfl) rfl (zp2 rfl ?_)
   by_cases hc5 : (decide (y1 ≥ 48)) = true
   ·replace hF := bifT hc5 hF
    refine qC hc5 (t := 26) rfl (qa rfl (zp1 rfl (qa rfl (zp1 rfl (qa rfl ?_)))))
    obtain ⟨y2, hx2, hF⟩ := qd hF
    have g2 := qjK hx2
    refine r_v (qj5 qc g2 rfl rfl rfl rfl) rfl (qa rfl (zp3 rfl (qb ?_)))
    obtain rfl := qj hF
    exact qu [(0, _), (3, _), (4, _), (5, _)] ⟨rfl, rfl, rfl, rfl, trivial⟩ ⟨_, hK2, rfl, h⟩
   replace hc5 := zb hc5
   replace hF := bifF hc5 hF
   refine qD hc5 (t := 26) rfl (zn4 rfl (zp2 rfl (qb ?_)))
   obtain rfl := qj hF
   exact qu [(0, _), (3, _), (4, _), (5, _)] ⟨rfl, rfl, rfl, rfl, trivial⟩ ⟨_, hK2, rfl, h⟩
  rintro e2 w2 ⟨b2, hF, rfl, h⟩
  subst hKF1
  refine zSR (zp3 rfl ?_)
  by_cases hc2 : (!b1) = true
  ·replace hF := bifT hc2 hF
   refine qC hc2 (t := 34) rfl (qa rfl (zp1 rfl (qa rfl (zp1 rfl ?_))))
   by_cases hc3 : b2 = true
   ·replace hF := bifT hc3 hF
    refine qC hc3 (t := 36) rfl (qa rfl (zp1 rfl (qa rfl (zp1 rfl (qa rfl (zp1 rfl (qa rfl (zp2 rfl (qb ?_)))))))))
    refine qp rfl hF ?_ ?_ <;> intro hF
    ·refine zSR (zp1 rfl (qb ?_))
     obtain rfl := qj hF; replace hF := hK1
     exact qx qc h hF ⟨rfl, trivial⟩
    exact zKER (zp3 rfl (qb (qy m1 [(0, _), (3, _)] (Nat.lt_succ_self m1) ⟨rfl, rfl, trivial⟩ ⟨_, hF, rfl, h⟩)))
   replace hc3 := zb hc3
   replace hF := bifF hc3 hF
   refine qD hc3 (t := 36) rfl (zn2 rfl (qa rfl (zp1 rfl (qa rfl (zp2 rfl (qb (qez rfl rfl (zSR ?_))))))))
   refine zp1 rfl (qb ?_)
   obtain rfl := qj hF; replace hF := hK1
   exact qx qc h hF ⟨rfl, trivial⟩
  replace hc2 := zb hc2
  replace hF := bifF hc2 hF
  refine qD hc2 (t := 34) rfl (zn5 rfl (zn1 rfl (zp1 rfl (qb (qcG rfl rfl (zKE ?_))))))
  exact qB (zp3 rfl (qb (qy m1 [(0, _), (3, _)] (Nat.lt_succ_self m1) ⟨rfl, rfl, trivial⟩ ⟨_, hF, rfl, h⟩)))
 refine qF rfl ?_
 obtain rfl := qj hF; replace hF := hK1
 refine zSR (zp4 rfl ?_)
 by_cases hc7 : (decide ((s.size : Int) ≥ 1)) = true
 ·replace hF := bifT hc7 hF
  exact qC hc7 (t := 45) rfl (qa rfl (zp1 rfl (qa rfl (zp1 rfl (qa rfl (zp3 rfl (qb (qx qc h hF ⟨rfl, trivial⟩))))))))
 replace hc7 := zb hc7
 replace hF := bifF hc7 hF
 exact qD hc7 (t := 45) rfl (zn3 rfl (zp2 rfl (qb (qx qc h hF ⟨rfl, trivial⟩))))

def qdd (a_0 : qE) (i2 : Int) (y1 : qaC) : Nat → Int → Option (Flow (Int × Bool) Int)
 | 0, _ => none
 | n + 1, i3 =>
  bif decide (i3 < i2) then
   (idx a_0.Pins i3).bind fun y2 =>
   bif (y2.Name.toList == y1.Name.toList) then
    some (.ret (0, false))
   else
    qdd a_0 i2 y1 n (W64 (i3 + 1))
  else
   some (.nxt i3)

def qcd (a_0 : qE) : Nat → Int → Int → Option (Flow (Int × Bool) (Int × Int))
 | 0, _, _ => none
 | n + 1, i1, i2 =>
  bif decide (i2 < (a_0.Pins.length : Int)) then
   (idx a_0.Pins i2).bind fun y1 =>
   (qdd a_0 i2 y1 n 0).bind fun o => match o with
   | .ret r => some (.ret r)
   | .nxt _ =>
    (
     (qfl n y1.Name).bind fun r1 =>
     bif (!r1) then
      some true
     else
      (qaA n y1.Cap 0 500).bind fun r2 =>
      some (!r2)).bind fun b4 =>
    bif b4 then
     some (.ret (0, false))
    else
     (
      bif (i2 == (W64 ((a_0.Pins.length : Int) - 1))) then
       bif (y1.Dir != 2) then
        some true
       else
        bif (y1.Cap != 0) then
         some true
        else
         bif y1.Clock then
          some true
         else
          bif decide (i2 < (W64 ((a_0.Pins.length : Int) - 1))) then
           some (y1.Dir != 1)
          else
           some false
      else
       bif decide (i2 < (W64 ((a_0.Pins.length : Int) - 1))) then
        some (y1.Dir != 1)
       else
        some false).bind fun b5 =>
     bif b5 then
      some (.ret (0, false))
     else
      bif y1.Clock then
       qcd a_0 n (W64 (i1 + 1)) (W64 (i2 + 1))
      else
       qcd a_0 n i1 (W64 (i2 + 1))
  else
   some (.nxt (i1, i2))

def qg3 (n : Nat) (a_0 : qE) : Option (Int × Bool) :=
 (
  bif decide ((a_0.Pins.length : Int) < 2) then
   some true
  else
   some (decide ((a_0.Pins.length : Int) > 5))).bind fun b1 =>
 bif b1 then
  some (0, false)
 else
  (qcd a_0 n 0 0).bind fun o => match o with
  | .ret r => some r
  | .nxt (i1, _) =>
   some (i1, true)

theorem ql6 {n : Nat} {w : World} {a_0 : qE} {cs1 : List Value} (ha1 : GoT.R w (old w) a_0 cs1) {r : (Int × Bool)} (hF : qg3 n a_0 = some r) : RetV Tryz.prog 215 [GoT.v qE cs1] w r := by
 obtain ⟨p1, k1, p2, k2, p3, k3, rfl, s1, s2, s3⟩ := qaa ha1
 refine qf Tryz.func215 rfl (m := 86) rfl rfl (fun h => ?_)
 rw [qg3] at hF
 refine zSR (qP h rfl rfl ?_)
 intro w1 bb1 h
 refine zp2 rfl (zNSR (zp1 rfl (zl 0 2 h rfl (zp2 rfl (zNSS ?_)))))
 obtain ⟨KF3, hKF3, o5, hF, hK5⟩ := bindE hF
 refine qdR (fun e w' => ∃ (b1 : Bool), KF3 b1 = some r ∧ e = [(1, .pointer (some ⟨bb1, 0, none⟩)), (4, .int .i64 (a_0.Pins.length : Int)), (17, .bool b1)] ∧ SH w w' [Ch.box bb1 [.string a_0.Name, .int .i64 a_0.Kind, .slice p1 a_0.Pins.length k1, .slice p2 a_0.Arcs.length k2, .slice p3 a_0.Truth.length k3, .int .i64 a_0.Leak, .int .i64 a_0.Energy] 183]) ?_ ?_
 ·refine qB (zp3 rfl ?_)
  by_cases hc17 : (decide ((a_0.Pins.length : Int) < 2)) = true
  ·replace hF := bifT hc17 hF
   refine qC hc17 (t := 14) rfl (zn2 rfl (zp1 rfl (qb ?_)))
   obtain rfl := qj hF
   exact qu [(1, _), (4, _), (17, _)] ⟨rfl, rfl, rfl, trivial⟩ ⟨_, hK5, rfl, h⟩
  replace hc17 := zb hc17
  replace hF := bifF hc17 hF
  refine qD hc17 (t := 14) rfl (qa rfl (zp1 rfl (qa rfl (zp2 rfl (qb ?_)))))
  obtain rfl := qj hF
  exact qu [(1, _), (4, _), (17, _)] ⟨rfl, rfl, rfl, trivial⟩ ⟨_, hK5, rfl, h⟩
 rintro e5 w11 ⟨b1, hF, rfl, h⟩
 subst hKF3
 refine qp rfl hF ?_ ?_ <;> intro hF
 ·refine zSR (zp2 rfl (qb ?_))
  obtain rfl := qj hF
  exact qad qc (ρ := (Int × Bool)) [GoT.v Int [.int .i64 0], GoT.v Bool [.bool false]] h ⟨rfl, rfl, trivial⟩ (PV.done h (qe6 h (qas (S := fun _ => False) rfl) (qai (qas (S := fun _ => False) rfl)) (by rfl)))
 refine zKSR (zp1 rfl (zNSSR (zp1 rfl (qb ?_))))
 obtain ⟨o1, hF, hK1⟩ := qd hF
 refine qA (qW [(1, _), (4, _), (5, _), (6, _)] ⟨rfl, rfl, rfl, rfl, trivial⟩ ?_)
 refine qG (fun m e w' => ∃ (i1 : Int) (i2 : Int), qcd a_0 m i1 i2 = some o1 ∧ e = [(1, .pointer (some ⟨bb1, 0, none⟩)), (4, .int .i64 (a_0.Pins.length : Int)), (5, .int .i64 i1), (6, .int .i64 i2)] ∧ SH w w' [Ch.box bb1 [.string a_0.Name, .int .i64 a_0.Kind, .slice p1 a_0.Pins.length k1, .slice p2 a_0.Arcs.length k2, .slice p3 a_0.Truth.length k3, .int .i64 a_0.Leak, .int .i64 a_0.Energy] 183]) n ⟨_, _, hF, rfl, h⟩ ?_
 rintro m1 e1 w2 ⟨i1, i2, hF, rfl, h⟩
 rcases m1 with _ | m1
 ·rw [qcd] at hF
  cases hF
 rw [qcd] at hF
 refine zSSR (zp3 rfl (qb ?_))
 refine qp rfl hF ?_ ?_ <;> intro hF
 ·refine zKSBSR (zp1 rfl (zl 0 2 h rfl (zp1 rfl ?_)))
  obtain ⟨y1, hy1, hF⟩ := qd hF
  have he1 := qg hy1
  obtain ⟨b2, o_1, q1, cs2, hp1, hq1, -, hr1, hc3⟩ := s1.at hy1
  obtain rfl := qbx hr1
  refine zxe hp1 hq1 he1 rfl (zc 0 (hc3.below h.below) rfl (qT qc h rfl rfl rfl ?_))
  intro w3 bb2 h
  refine zs 0 h rfl ?_
  intro w4 h
  refine zNSSR (zp1 rfl (qb ?_))
  obtain ⟨o2, hF, hK2⟩ := qd hF
  refine qA (qW [(1, _), (4, _), (5, _), (6, _), (7, _), (8, _)] ⟨rfl, rfl, rfl, rfl, rfl, rfl, trivial⟩ ?_)
  refine qG (fun m e w' => ∃ (i3 : Int), qdd a_0 i2 y1 m i3 = some o2 ∧ e = [(1, .pointer (some ⟨bb1, 0, none⟩)), (4, .int .i64 (a_0.Pins.length : Int)), (5, .int .i64 i1), (6, .int .i64 i2), (7, .pointer (some ⟨bb2, 0, none⟩)), (8, .int .i64 i3)] ∧ SH w w' [Ch.box bb2 [.string y1.Name, .int .i64 y1.Dir, .int .i64 y1.Cap, .bool y1.Clock] 238, Ch.box bb1 [.string a_0.Name, .int .i64 a_0.Kind, .slice p1 a_0.Pins.length k1, .slice p2 a_0.Arcs.length k2, .slice p3 a_0.Truth.length k3, .int .i64 a_0.Leak, .int .i64 a_0.Energy] 183]) m1 ⟨_, hF, rfl, h⟩ ?_
  rintro m2 e2 w5 ⟨i3, hF, rfl, h⟩
  rcases m2 with _ | m2
  ·rw [qdd] at hF
   cases hF
  rw [qdd] at hF
  refine zSSR (zp3 rfl (qb ?_))
  refine qp rfl hF ?_ ?_ <;> intro hF
  ·refine zKSB (qbl ?_)
   refine qb3 rfl (by kernel_rfl) ?_
   refine zd1 rfl ?_
   refine zdl 1 2 h rfl ?_
   refine zd1 rfl ?_
   obtain ⟨y2, hy2, hF⟩ := qd hF
   have he2 := qg hy2
   obtain ⟨b3, o_2, q2, cs3, hp2, hq2, -, hr2, hc5⟩ := s1.at hy2
   obtain rfl := qbx hr2
   refine zdxe hp2 hq2 he2 rfl ?_
   refine zd1 rfl ?_
   refine zdc 0 (hc5.below h.below) rfl ?_
   refine zd1 rfl ?_
   refine zdl 0 0 h rfl ?_
   refine zd1 rfl ?_
   refine qaR (fun w6 hb => ?_)
   replace h := h.ext hb
   clear hb
   refine qp rfl hF ?_ ?_ <;> intro hF
   ·refine zSR (zp2 rfl (qb ?_))
    obtain rfl := qj hF; replace hF := hK2
    obtain rfl := qj hF; replace hF := hK1
    obtain rfl := qj hF
    exact qad qc (ρ := (Int × Bool)) [GoT.v Int [.int .i64 0], GoT.v Bool [.bool false]] h ⟨rfl, rfl, trivial⟩ (PV.done h (qe6 h (qas (S := fun _ => False) rfl) (qai (qas (S := fun _ => False) rfl)) (by rfl)))
   exact zKER (zp3 rfl (qb (qy m2 [(1, _), (4, _), (5, _), (6, _), (7, _), (8, _)] (Nat.lt_succ_self m2) ⟨rfl, rfl, rfl, rfl, rfl, rfl, trivial⟩ ⟨_, hF, rfl, h⟩)))
  refine qF rfl ?_
  obtain rfl := qj hF; replace hF := hK2
  refine zSS ?_
  obtain ⟨KF2, hKF2, o4, hF, hK4⟩ := bindE hF
  refine qdR (fun e w' => ∃ (b4 : Bool), KF2 b4 = some o1 ∧ e = [(1, .pointer (some ⟨bb1, 0, none⟩)), (4, .int .i64 (a_0.Pins.length : Int)), (5, .int .i64 i1), (6, .int .i64 i2), (7, .pointer (some ⟨bb2, 0, none⟩)), (51, .bool b4)] ∧ SH w w' [Ch.box bb2 [.string y1.Name, .int .i64 y1.Dir, .int .i64 y1.Cap, .bool y1.Clock] 238, Ch.box bb1 [.string a_0.Name, .int .i64 a_0.Kind, .slice p1 a_0.Pins.length k1, .slice p2 a_0.Arcs.length k2, .slice p3 a_0.Truth.length k3, .int .i64 a_0.Leak, .int .i64 a_0.Energy] 183]) ?_ ?_
  ·refine qB (zp1 rfl (zl 0 0 h rfl ?_))
   obtain ⟨r1, hr3, hF⟩ := qd hF
   refine qm r1 h call203 (qh9 hr3) rfl rfl rfl rfl ?_
   intro w8 h
   refine zp2 rfl ?_
   by_cases hc16 : (!r1) = true
   ·replace hF := bifT hc16 hF
    refine qC hc16 (t := 46) rfl (zn4 rfl (zp1 rfl (qb ?_)))
    obtain rfl := qj hF
    exact qu [(1, _), (4, _), (5, _), (6, _), (7, _), (51, _)] ⟨rfl, rfl, rfl, rfl, rfl, rfl, trivial⟩ ⟨_, hK4, rfl, h⟩
   replace hc16 := zb hc16
   replace hF := bifF hc16 hF
   refine qD hc16 (t := 46) rfl (qa rfl (zp1 rfl (qa rfl (zl 0 2 h rfl (qa rfl ?_)))))
   obtain ⟨r2, hr4, hF⟩ := qd hF
   refine qm r2 h call77 (qal hr4) rfl rfl rfl rfl ?_
   intro w9 h
   refine qa rfl (zp2 rfl (qb ?_))
   obtain rfl := qj hF
   exact qu [(1, _), (4, _), (5, _), (6, _), (7, _), (51, _)] ⟨rfl, rfl, rfl, rfl, rfl, rfl, trivial⟩ ⟨_, hK4, rfl, h⟩
  rintro e4 w10 ⟨b4, hF, rfl, h⟩
  subst hKF2
  refine qp rfl hF ?_ ?_ <;> intro hF
  ·refine zSR (zp2 rfl (qb ?_))
   obtain rfl := qj hF; replace hF := hK1
   obtain rfl := qj hF
   exact qad qc (ρ := (Int × Bool)) [GoT.v Int [.int .i64 0], GoT.v Bool [.bool false]] h ⟨rfl, rfl, trivial⟩ (PV.done h (qe6 h (qas (S := fun _ => False) rfl) (qai (qas (S := fun _ => False) rfl)) (by rfl)))
  refine zKSS ?_
  obtain ⟨KF1, hKF1, o3, hF, hK3⟩ := bindE hF
  refine qdR (fun e w' => ∃ (b5 : Bool), KF1 b5 = some o1 ∧ e = [(1, .pointer (some ⟨bb1, 0, none⟩)), (4, .int .i64 (a_0.Pins.length : Int)), (5, .int .i64 i1), (6, .int .i64 i2), (7, .pointer (some ⟨bb2, 0, none⟩)), (80, .bool b5)] ∧ SH w w' [Ch.box bb2 [.string y1.Name, .int .i64 y1.Dir, .int .i64 y1.Cap, .bool y1.Clock] 238, Ch.box bb1 [.string a_0.Name, .int .i64 a_0.Kind, .slice p1 a_0.Pins.length k1, .slice p2 a_0.Arcs.length k2, .slice p3 a_0.Truth.length k3, .int .i64 a_0.Leak, .int .i64 a_0.Energy] 183]) ?_ ?_
  ·refine qB (zp5 rfl ?_)
   by_cases hc10 : (i2 == (W64 ((a_0.Pins.length : Int) - 1))) = true
   ·replace hF := bifT hc10 hF
    refine qC hc10 (t := 56) rfl (qa rfl (zp1 rfl (qa rfl (zl 0 1 h rfl (qa rfl (zp1 rfl (qa rfl (zp1 rfl ?_))))))))
    by_cases hc11 : (y1.Dir != 2) = true
    ·replace hF := bifT hc11 hF
     refine qC hc11 (t := 60) rfl (zn3 rfl (qa rfl (zp1 rfl (qa rfl (zp1 rfl (zn2 rfl (qa rfl (zp1 rfl ?_))))))))
     refine zp2 rfl (zn5 rfl (zn4 rfl (zp1 rfl ?_)))
     refine qb ?_
     obtain rfl := qj hF
     exact qu [(1, _), (4, _), (5, _), (6, _), (7, _), (80, _)] ⟨rfl, rfl, rfl, rfl, rfl, rfl, trivial⟩ ⟨_, hK3, rfl, h⟩
    replace hc11 := zb hc11
    replace hF := bifF hc11 hF
    refine qD hc11 (t := 60) rfl (qa rfl (zp1 rfl (qa rfl (zl 0 2 h rfl (qa rfl (zp1 rfl (qa rfl (zp1 rfl (qa rfl (zp1 rfl ?_))))))))))
    by_cases hc12 : (y1.Cap != 0) = true
    ·replace hF := bifT hc12 hF
     refine qC hc12 (t := 65) rfl (zn2 rfl (qa rfl (zp3 rfl (zn5 rfl ?_))))
     refine zn4 rfl (zp1 rfl (qb ?_))
     obtain rfl := qj hF
     exact qu [(1, _), (4, _), (5, _), (6, _), (7, _), (80, _)] ⟨rfl, rfl, rfl, rfl, rfl, rfl, trivial⟩ ⟨_, hK3, rfl, h⟩
    replace hc12 := zb hc12
    replace hF := bifF hc12 hF
    refine qD hc12 (t := 65) rfl (qa rfl (zp1 rfl (qa rfl (zl 0 3 h rfl (qa rfl (zp3 rfl ?_))))))
    by_cases hc13 : y1.Clock = true
    ·replace hF := bifT hc13 hF
     refine qC hc13 (t := 70) rfl (zn5 rfl (zn4 rfl (zp1 rfl (qb ?_))))
     obtain rfl := qj hF
     exact qu [(1, _), (4, _), (5, _), (6, _), (7, _), (80, _)] ⟨rfl, rfl, rfl, rfl, rfl, rfl, trivial⟩ ⟨_, hK3, rfl, h⟩
    replace hc13 := zb hc13
    replace hF := bifF hc13 hF
    refine qD hc13 (t := 70) rfl (qa rfl (zp1 rfl (qa rfl (zp1 rfl (qa rfl (zp1 rfl (qa rfl (zp1 rfl (qa rfl (zp1 rfl ?_))))))))))
    by_cases hc14 : (decide (i2 < (W64 ((a_0.Pins.length : Int) - 1)))) = true
    ·replace hF := bifT hc14 hF
     refine qC hc14 (t := 75) rfl (qa rfl (zp1 rfl (qa rfl (zl 0 1 h rfl (qa rfl (zp1 rfl (qa rfl (zp2 rfl (qb ?_)))))))))
     obtain rfl := qj hF
     exact qu [(1, _), (4, _), (5, _), (6, _), (7, _), (80, _)] ⟨rfl, rfl, rfl, rfl, rfl, rfl, trivial⟩ ⟨_, hK3, rfl, h⟩
    replace hc14 := zb hc14
    replace hF := bifF hc14 hF
    refine qD hc14 (t := 75) rfl (zn3 rfl (qa rfl (zp2 rfl (qb ?_))))
    obtain rfl := qj hF
    exact qu [(1, _), (4, _), (5, _), (6, _), (7, _), (80, _)] ⟨rfl, rfl, rfl, rfl, rfl, rfl, trivial⟩ ⟨_, hK3, rfl, h⟩
   replace hc10 := zb hc10
   replace hF := bifF hc10 hF
   refine qD hc10 (t := 56) rfl (zn5 rfl (zn5 rfl (zn1 rfl ?_)))
   refine zn1 rfl (zp2 rfl (qa rfl (zp1 rfl (qa rfl (zp1 rfl (qa rfl (zp1 rfl (qa rfl (zp1 rfl (qa rfl ?_))))))))))
   refine zp1 rfl ?_
   by_cases hc15 : (decide (i2 < (W64 ((a_0.Pins.length : Int) - 1)))) = true
   ·replace hF := bifT hc15 hF
    refine qC hc15 (t := 75) rfl (qa rfl (zp1 rfl (qa rfl (zl 0 1 h rfl (qa rfl (zp1 rfl (qa rfl (zp2 rfl (qb ?_)))))))))
    obtain rfl := qj hF
    exact qu [(1, _), (4, _), (5, _), (6, _), (7, _), (80, _)] ⟨rfl, rfl, rfl, rfl, rfl, rfl, trivial⟩ ⟨_, hK3, rfl, h⟩
   replace hc15 := zb hc15
   replace hF := bifF hc15 hF
   refine qD hc15 (t := 75) rfl (zn3 rfl (qa rfl (zp2 rfl (qb ?_))))
   obtain rfl := qj hF
   exact qu [(1, _), (4, _), (5, _), (6, _), (7, _), (80, _)] ⟨rfl, rfl, rfl, rfl, rfl, rfl, trivial⟩ ⟨_, hK3, rfl, h⟩
  rintro e3 w7 ⟨b5, hF, rfl, h⟩
  subst hKF1
  refine qp rfl hF ?_ ?_ <;> intro hF
  ·refine zSR (zp2 rfl (qb ?_))
   obtain rfl := qj hF; replace hF := hK1
   obtain rfl := qj hF
   exact qad qc (ρ := (Int × Bool)) [GoT.v Int [.int .i64 0], GoT.v Bool [.bool false]] h ⟨rfl, rfl, trivial⟩ (PV.done h (qe6 h (qas (S := fun _ => False) rfl) (qai (qas (S := fun _ => False) rfl)) (by rfl)))
  refine zKSR (zp1 rfl (zl 0 3 h rfl (qb ?_)))
  refine qp rfl hF ?_ ?_ <;> intro hF
  ·refine qB (zp3 rfl (zNER (zp3 rfl (qb ?_))))
   replace h := h.pick [1] rfl
   exact qy m1 [(1, _), (4, _), (5, _), (6, _)] (Nat.lt_succ_self m1) ⟨rfl, rfl, rfl, rfl, trivial⟩ ⟨_, _, hF, rfl, h⟩
  refine zKER (zp3 rfl (qb ?_))
  replace h := h.pick [1] rfl
  exact qy m1 [(1, _), (4, _), (5, _), (6, _)] (Nat.lt_succ_self m1) ⟨rfl, rfl, rfl, rfl, trivial⟩ ⟨_, _, hF, rfl, h⟩
 refine qF rfl ?_
 obtain rfl := qj hF; replace hF := hK1
 refine zSR (zp3 rfl (qb ?_))
 obtain rfl := qj hF
 exact qad qc (ρ := (Int × Bool)) [GoT.v Int [.int .i64 i1], GoT.v Bool [.bool true]] h ⟨rfl, rfl, trivial⟩ (PV.done h (qe6 h (qas (S := fun _ => False) rfl) (qai (qas (S := fun _ => False) rfl)) (by rfl)))

def qcE (list : (List Int)) : Nat → Int → Option (Flow Bool Int)
 | 0, _ => none
 | n + 1, i1 =>
  bif decide (i1 < (list.length : Int)) then
   (idx list i1).bind fun y1 =>
   (qaA n y1 0 100000).bind fun r1 =>
   bif (!r1) then
    some (.ret false)
   else
    bif decide (i1 > 0) then
     (idx list (W64 (i1 - 1))).bind fun y2 =>
     (idx list i1).bind fun y3 =>
     bif decide (y2 ≥ y3) then
      some (.ret false)
     else
      qcE list n (W64 (i1 + 1))
    else
     qcE list n (W64 (i1 + 1))
  else
   some (.nxt i1)

def qgb (n : Nat) (list : (List Int)) : Option Bool :=
 (qcE list n 0).bind fun o => match o with
 | .ret r => some r
 | .nxt _ =>
  bif decide ((list.length : Int) ≥ 1) then
   some (decide ((list.length : Int) ≤ 4))
  else
   some false

theorem qjB {n : Nat} {w : World} {list : (List Int)} {cs1 : List Value} (ha1 : GoT.R w (old w) list cs1) {r : Bool} (hF : qgb n list = some r) : RetV Tryz.prog 260 [GoT.v (List Int) cs1] w r := by
 obtain ⟨p1, k1, rfl, s1⟩ := ha1
 refine qf Tryz.func260 rfl (m := 40) rfl rfl (fun h => ?_)
 rw [qgb] at hF
 refine zSR (zp1 rfl (zNSSR (zp1 rfl (qb ?_))))
 obtain ⟨o1, hF, hK1⟩ := qd hF
 refine qA (qW [(0, _), (3, _)] ⟨rfl, rfl, trivial⟩ ?_)
 refine qG (fun m e w' => ∃ (i1 : Int), qcE list m i1 = some o1 ∧ e = [(0, .slice p1 list.length k1), (3, .int .i64 i1)] ∧ SH w w' []) n ⟨_, hF, rfl, h⟩ ?_
 rintro m1 e1 w1 ⟨i1, hF, rfl, h⟩
 rcases m1 with _ | m1
 ·rw [qcE] at hF
  cases hF
 rw [qcE] at hF
 refine zSSR (zp4 rfl (qb ?_))
 refine qp rfl hF ?_ ?_ <;> intro hF
 ·refine zKSB (qbl ?_)
  refine qb3 rfl (by kernel_rfl) ?_
  refine zd2 rfl ?_
  obtain ⟨y1, hy1, hF⟩ := qd hF
  have he1 := qg hy1
  obtain ⟨b1, o_1, q1, cs2, hp1, hq1, -, hr1, hc2⟩ := s1.at hy1
  obtain rfl := hr1
  refine zdxe hp1 hq1 he1 rfl ?_
  refine zdc 0 (hc2.below h.below) rfl ?_
  obtain ⟨r1, hr2, hF⟩ := qd hF
  refine qb7 r1 (vsB _) call77 (fun _ hb => qal  hr2) rfl rfl rfl rfl ?_
  refine zd2 rfl ?_
  by_cases hc3 : (!r1) = true
  ·replace hF := bifT hc3 hF
   refine qch hc3 (t := 16) rfl (qi rfl rfl rfl (qi rfl rfl rfl (qi rfl rfl rfl (qi rfl rfl rfl (qi rfl rfl rfl (qi rfl rfl rfl (qi rfl rfl rfl (qi rfl rfl rfl (qi rfl rfl rfl (qi rfl rfl rfl (qi rfl rfl rfl ?_)))))))))))
   refine qi rfl rfl rfl (qi rfl rfl rfl (qi rfl rfl rfl (zd1 rfl ?_)))
   refine qaR (fun w2 hb => ?_)
   replace h := h.ext hb
   clear hb
   refine qez rfl rfl (zSR (zp1 rfl (qb ?_)))
   obtain rfl := qj hF; replace hF := hK1
   exact qx qc h hF ⟨rfl, trivial⟩
  replace hc3 := zb hc3
  replace hF := bifF hc3 hF
  refine qci hc3 (t := 16) rfl (qh rfl (zd1 rfl (qh rfl (zd1 rfl (qh rfl (zd1 rfl ?_))))))
  by_cases hc4 : (decide (i1 > 0)) = true
  ·replace hF := bifT hc4 hF
   refine qch hc4 (t := 19) rfl (qh rfl (zd1 rfl (qh rfl (zd1 rfl (qh rfl (zd1 rfl (qh rfl ?_)))))))
   obtain ⟨y2, hy2, hF⟩ := qd hF
   have he2 := qg hy2
   obtain ⟨b2, o_2, q2, cs3, hp2, hq2, -, hr3, hc5⟩ := s1.at hy2
   obtain rfl := hr3
   refine zdxe hp2 hq2 he2 rfl ?_
   refine qh rfl ?_
   refine zdc 0 (hc5.below h.below) rfl ?_
   refine qh rfl (zd1 rfl (qh rfl (zd1 rfl (qh rfl ?_))))
   obtain ⟨y3, hy3, hF⟩ := qd hF
   have he3 := qg hy3
   obtain ⟨b3, o_3, q3, cs4, hp3, hq3, -, hr4, hc6⟩ := s1.at hy3
   obtain rfl := hr4
   refine zdxe hp3 hq3 he3 rfl ?_
   refine qh rfl ?_
   refine zdc 0 (hc6.below h.below) rfl ?_
   refine qh rfl (zd1 rfl (qh rfl (zd2 rfl ?_)))
   refine qaR (fun w3 hb => ?_)
   replace h := h.ext hb
   clear hb
   refine qp rfl hF ?_ ?_ <;> intro hF
   ·refine zSR (zp1 rfl (qb ?_))
    obtain rfl := qj hF; replace hF := hK1
    exact qx qc h hF ⟨rfl, trivial⟩
   exact zKER (zp3 rfl (qb (qy m1 [(0, _), (3, _)] (Nat.lt_succ_self m1) ⟨rfl, rfl, trivial⟩ ⟨_, hF, rfl, h⟩)))
  replace hc4 := zb hc4
  replace hF := bifF hc4 hF
  refine qci hc4 (t := 19) rfl (qi rfl rfl rfl (qi rfl rfl rfl (qi rfl rfl rfl (qi rfl rfl rfl (qi rfl rfl rfl (qi rfl rfl rfl (qi rfl rfl rfl (qi rfl rfl rfl (qi rfl rfl rfl (qi rfl rfl rfl (qh rfl ?_)))))))))))
  refine zd2 rfl ?_
  refine qaR (fun w4 hb => ?_)
  replace h := h.ext hb
  clear hb
  exact qcG rfl rfl (zKER (zp3 rfl (qb (qy m1 [(0, _), (3, _)] (Nat.lt_succ_self m1) ⟨rfl, rfl, trivial⟩ ⟨_, hF, rfl, h⟩))))
 refine qF rfl ?_
 obtain rfl := qj hF; replace hF := hK1
 refine zSR (zp4 rfl ?_)
 by_cases hc8 : (decide ((list.length : Int) ≥ 1)) = true
 ·replace hF := bifT hc8 hF
  exact qC hc8 (t := 35) rfl (qa rfl (zp1 rfl (qa rfl (zp1 rfl (qa rfl (zp3 rfl (qb (qx qc h hF ⟨rfl, trivial⟩))))))))
 replace hc8 := zb hc8
 replace hF := bifF hc8 hF
 exact qD hc8 (t := 35) rfl (zn3 rfl (zp2 rfl (qb (qx qc h hF ⟨rfl, trivial⟩))))

def qdj (t : qJ) : Nat → Int → Option (Flow Bool Int)
 | 0, _ => none
 | n + 1, i1 =>
  bif decide (i1 < (t.Values.length : Int)) then
   (idx t.Values i1).bind fun y1 =>
   (qaA n y1 (-1000000) 1000000).bind fun r1 =>
   bif (!r1) then
    some (.ret false)
   else
    qdj t n (W64 (i1 + 1))
  else
   some (.nxt i1)

def qhx (n : Nat) (t : qJ) : Option Bool :=
 (
  (qgb n t.Slews).bind fun r2 =>
  bif (!r2) then
   some true
  else
   (qgb n t.Loads).bind fun r3 =>
   bif (!r3) then
    some true
   else
    some ((t.Values.length : Int) != (W64 ((t.Slews.length : Int) * (t.Loads.length : Int))))).bind fun b1 =>
 bif b1 then
  some false
 else
  (qdj t n 0).bind fun o => match o with
  | .ret r => some r
  | .nxt _ =>
   some true

theorem qlW {n : Nat} {w : World} {t : qJ} {cs1 : List Value} (ha1 : GoT.R w (old w) t cs1) {r : Bool} (hF : qhx n t = some r) : RetV Tryz.prog 248 [GoT.v qJ cs1] w r := by
 obtain ⟨p1, k1, p2, k2, p3, k3, rfl, s1, s2, s3⟩ := qbP ha1
 refine qf Tryz.func248 rfl (m := 41) rfl rfl (fun h => ?_)
 rw [qhx] at hF
 refine zSR (qP h rfl rfl ?_)
 intro w1 bb1 h
 refine zp1 rfl (zNSS ?_)
 obtain ⟨KF1, hKF1, o2, hF, hK2⟩ := bindE hF
 refine qdR (fun e w' => ∃ (b1 : Bool), KF1 b1 = some r ∧ e = [(1, .pointer (some ⟨bb1, 0, none⟩)), (26, .bool b1)] ∧ SH w w' [Ch.box bb1 [.slice p1 t.Slews.length k1, .slice p2 t.Loads.length k2, .slice p3 t.Values.length k3] 267]) ?_ ?_
 ·refine qB (zp1 rfl (zl 0 0 h rfl ?_))
  obtain ⟨r2, hr3, hF⟩ := qd hF
  refine qm r2 h call260 (qjB ⟨_, _, rfl, (h.oldS s1)⟩ hr3) rfl rfl rfl rfl ?_
  intro w4 h
  refine zp2 rfl ?_
  by_cases hc5 : (!r2) = true
  ·replace hF := bifT hc5 hF
   refine qC hc5 (t := 8) rfl (zn4 rfl (zp2 rfl (zn5 rfl ?_)))
   refine zn5 rfl (zn1 rfl (zp1 rfl (qb ?_)))
   obtain rfl := qj hF
   exact qu [(1, _), (26, _)] ⟨rfl, rfl, trivial⟩ ⟨_, hK2, rfl, h⟩
  replace hc5 := zb hc5
  replace hF := bifF hc5 hF
  refine qD hc5 (t := 8) rfl (qa rfl (zp1 rfl (qa rfl (zl 0 1 h rfl (qa rfl ?_)))))
  obtain ⟨r3, hr4, hF⟩ := qd hF
  refine qm r3 h call260 (qjB ⟨_, _, rfl, (h.oldS s2)⟩ hr4) rfl rfl rfl rfl ?_
  intro w5 h
  refine qa rfl (zp3 rfl ?_)
  by_cases hc6 : (!r3) = true
  ·replace hF := bifT hc6 hF
   refine qC hc6 (t := 14) rfl (zn5 rfl (zn5 rfl (zn1 rfl ?_)))
   refine zp1 rfl (qb ?_)
   obtain rfl := qj hF
   exact qu [(1, _), (26, _)] ⟨rfl, rfl, trivial⟩ ⟨_, hK2, rfl, h⟩
  replace hc6 := zb hc6
  replace hF := bifF hc6 hF
  refine qD hc6 (t := 14) rfl (qa rfl (zp1 rfl (qa rfl (zl 0 2 h rfl (qa rfl (zp1 rfl (qa rfl (zp1 rfl (qa rfl (zl 0 0 h rfl (qa rfl ?_)))))))))))
  refine zp1 rfl (qa rfl (zp1 rfl (qa rfl (zl 0 1 h rfl (qa rfl (zp1 rfl (qa rfl (zp1 rfl (qa rfl (zp2 rfl ?_))))))))))
  refine qb ?_
  obtain rfl := qj hF
  exact qu [(1, _), (26, _)] ⟨rfl, rfl, trivial⟩ ⟨_, hK2, rfl, h⟩
 rintro e2 w6 ⟨b1, hF, rfl, h⟩
 subst hKF1
 refine qp rfl hF ?_ ?_ <;> intro hF
 ·exact zSR (zp1 rfl (qb (qx qc h hF ⟨rfl, trivial⟩)))
 refine zKSSR (zp1 rfl (qb ?_))
 obtain ⟨o1, hF, hK1⟩ := qd hF
 refine qA (qW [(1, _), (3, _)] ⟨rfl, rfl, trivial⟩ ?_)
 refine qG (fun m e w' => ∃ (i1 : Int), qdj t m i1 = some o1 ∧ e = [(1, .pointer (some ⟨bb1, 0, none⟩)), (3, .int .i64 i1)] ∧ SH w w' [Ch.box bb1 [.slice p1 t.Slews.length k1, .slice p2 t.Loads.length k2, .slice p3 t.Values.length k3] 267]) n ⟨_, hF, rfl, h⟩ ?_
 rintro m1 e1 w2 ⟨i1, hF, rfl, h⟩
 rcases m1 with _ | m1
 ·rw [qdj] at hF
  cases hF
 rw [qdj] at hF
 refine zSSR (zp2 rfl (zl 0 2 h rfl (zp2 rfl (qb ?_))))
 refine qp rfl hF ?_ ?_ <;> intro hF
 ·refine zKSBSR (zp1 rfl (zl 0 2 h rfl (zp1 rfl ?_)))
  obtain ⟨y1, hy1, hF⟩ := qd hF
  have he1 := qg hy1
  obtain ⟨b2, o_1, q1, cs2, hp1, hq1, -, hr1, hc3⟩ := s3.at hy1
  obtain rfl := hr1
  refine zxe hp1 hq1 he1 rfl (zc 0 (hc3.below h.below) rfl ?_)
  obtain ⟨r1, hr2, hF⟩ := qd hF
  refine qm r1 h call77 (qal hr2) rfl rfl rfl rfl ?_
  intro w3 h
  refine zp1 rfl (qb ?_)
  refine qp rfl hF ?_ ?_ <;> intro hF
  ·refine zSR (zp1 rfl (qb ?_))
   obtain rfl := qj hF; replace hF := hK1
   exact qx qc h hF ⟨rfl, trivial⟩
  exact zKER (zp3 rfl (qb (qy m1 [(1, _), (3, _)] (Nat.lt_succ_self m1) ⟨rfl, rfl, trivial⟩ ⟨_, hF, rfl, h⟩)))
 refine qF rfl ?_
 obtain rfl := qj hF; replace hF := hK1
 exact zSR (zp1 rfl (qb (qx qc h hF ⟨rfl, trivial⟩)))

def qbO (t : qJ) : Nat → Int → Int → Int → Option (Int × Int × Int)
 | 0, _, _, _ => none
 | n + 1, i1, i2, i3 =>
  bif decide (i3 < (t.Values.length : Int)) then
   (idx t.Values i3).bind fun y3 =>
   (idx t.Values i3).bind fun y4 =>
   qbO t n (if y3 < i1 then y3 else i1) (if y4 > i2 then y4 else i2) (W64 (i3 + 1))
  else
   some (i1, i2, i3)

def qe7 (n : Nat) (t : qJ) : Option (qiw × Int) :=
 (qhx n t).bind fun r1 =>
 bif (!r1) then
  some ((⟨0, 0⟩ : qiw), 1)
 else
  (idx t.Values 0).bind fun y1 =>
  (idx t.Values 0).bind fun y2 =>
  (qbO t n y1 y2 1).bind fun o => match o with
  | (i1, i2, _) =>
   some ((⟨i1, i2⟩ : qiw), 0)

theorem qkp {n : Nat} {w : World} {t : qJ} {cs1 : List Value} (ha1 : GoT.R w (old w) t cs1) {r : (qiw × Int)} (hF : qe7 n t = some r) : RetV Tryz.prog 234 [GoT.v qJ cs1] w r := by
 obtain ⟨p1, k1, p2, k2, p3, k3, rfl, s1, s2, s3⟩ := qbP ha1
 refine qf Tryz.func234 rfl (m := 45) rfl rfl (fun h => ?_)
 rw [qe7] at hF
 refine zSR (qP h rfl rfl ?_)
 intro w1 bb1 h
 refine qT qc h rfl rfl rfl ?_
 intro w2 bb2 h
 refine zp1 rfl (zNSSR (zl 1 0 h rfl ?_))
 obtain ⟨r1, hr1, hF⟩ := qd hF
 refine qm r1 h call248 (qlW (h.old ha1) hr1) rfl rfl rfl rfl ?_
 intro w3 h
 refine zp1 rfl (qb ?_)
 refine qp rfl hF ?_ ?_ <;> intro hF
 ·refine zSR (r_v (qeM qc [] [] rfl rfl rfl rfl rfl rfl rfl rfl) rfl (zs 0 h rfl ?_))
  intro w4 h
  refine zp1 rfl (qb ?_)
  obtain rfl := qj hF
  exact qad qc (ρ := (qiw × Int)) [GoT.v qiw [.int .i64 0, .int .i64 0], GoT.v Int [.int .i64 1]] h ⟨⟨_, _, _, rfl, rfl, h.box 0 rfl, rfl⟩, rfl, trivial⟩ (PV.done h (qe6 h (qas (S := fun _ => False) (qnv (⟨0, 0⟩ : qiw))) (qai (qas (S := fun _ => False) rfl)) (by rfl)))
 refine zKS ?_
 refine qfO [] (fun w' => SH w w' [Ch.box bb1 [.slice p1 t.Slews.length k1, .slice p2 t.Loads.length k2, .slice p3 t.Values.length k3] 267]) rfl 11 rfl #[ff, ff, ff, ff, ff, ff, ff, ff, ff, ff, ff] (by kernel_rfl) (fun w5 hb => ?_)
 replace h := h.ext hb
 clear hb
 refine qk 0 rfl #[tt, ff, ff, ff, ff, ff, ff, ff, ff, ff, ff] (by kernel_rfl) (by kernel_rfl) (fun w' hw => v_p qc rfl w') (h.pick [1] rfl) rfl ?_
 refine qk 1 rfl #[tt, tt, ff, ff, ff, ff, ff, ff, ff, ff, ff] (by kernel_rfl) (by kernel_rfl) (fun w' hw => qbE qc (hw.box 0 rfl) (j := 2) rfl rfl rfl) (h.pick [1] rfl) rfl ?_
 obtain ⟨y1, hy1, hF⟩ := qd hF
 have he1 := qg hy1
 obtain ⟨b1, o_1, q1, cs2, hp1, hq1, -, hr2, hc2⟩ := s3.at hy1
 obtain rfl := hr2
 refine qk 2 rfl #[tt, tt, tt, ff, ff, ff, ff, ff, ff, ff, ff] (by kernel_rfl) (by kernel_rfl) (fun w' hw => qfA qc hp1 hq1 ⟨he1.1, he1.2.1⟩ rfl rfl rfl rfl rfl rfl) (h.pick [1] rfl) rfl ?_
 refine qk 3 rfl #[tt, tt, tt, tt, ff, ff, ff, ff, ff, ff, ff] (by kernel_rfl) (by kernel_rfl) (fun w' hw => qbE qc (hc2.below hw.below) (j := 0) rfl rfl rfl) (h.pick [1] rfl) rfl ?_
 refine qk 4 rfl #[tt, tt, tt, tt, tt, ff, ff, ff, ff, ff, ff] (by kernel_rfl) (by kernel_rfl) (fun w' hw => v_p qc rfl w') (h.pick [1] rfl) rfl ?_
 refine qk 5 rfl #[tt, tt, tt, tt, tt, tt, ff, ff, ff, ff, ff] (by kernel_rfl) (by kernel_rfl) (fun w' hw => qbE qc (hw.box 0 rfl) (j := 2) rfl rfl rfl) (h.pick [1] rfl) rfl ?_
 obtain ⟨y2, hy2, hF⟩ := qd hF
 have he2 := qg hy2
 obtain ⟨b2, o_2, q2, cs3, hp2, hq2, -, hr3, hc3⟩ := s3.at hy2
 obtain rfl := hr3
 refine qk 6 rfl #[tt, tt, tt, tt, tt, tt, tt, ff, ff, ff, ff] (by kernel_rfl) (by kernel_rfl) (fun w' hw => qfA qc hp2 hq2 ⟨he2.1, he2.2.1⟩ rfl rfl rfl rfl rfl rfl) (h.pick [1] rfl) rfl ?_
 refine qk 7 rfl #[tt, tt, tt, tt, tt, tt, tt, tt, ff, ff, ff] (by kernel_rfl) (by kernel_rfl) (fun w' hw => qbE qc (hc3.below hw.below) (j := 0) rfl rfl rfl) (h.pick [1] rfl) rfl ?_
 refine qk 8 rfl #[tt, tt, tt, tt, tt, tt, tt, tt, tt, ff, ff] (by kernel_rfl) (by kernel_rfl) (fun w' hw => qeM qc [0, 1] [.tmp 13, .tmp 17] rfl rfl rfl rfl rfl rfl rfl rfl) (h.pick [1] rfl) rfl ?_
 refine qax 9 rfl #[tt, tt, tt, tt, tt, tt, tt, tt, tt, tt, ff] (by kernel_rfl) (by kernel_rfl) ?_
 refine qT qc h rfl rfl rfl ?_
 intro w6 bb3 h
 refine qao (fun _ => (h.pick [2] rfl)) ?_
 refine qax 10 rfl #[tt, tt, tt, tt, tt, tt, tt, tt, tt, tt, tt] (by kernel_rfl) (by kernel_rfl) ?_
 refine zs 0 h rfl ?_
 intro w7 h
 refine qao (fun _ => (h.pick [2] rfl)) ?_
 refine qdn (by kernel_rfl) ?_
 refine zSSR (zp1 rfl (qb ?_))
 obtain ⟨o1, hF, hK1⟩ := qd hF
 refine qA (qW [(1, _), (2, _), (4, _), (5, _)] ⟨rfl, rfl, rfl, rfl, trivial⟩ ?_)
 refine qG (fun m e w' => ∃ (i1 : Int) (i2 : Int) (i3 : Int), qbO t m i1 i2 i3 = some o1 ∧ e = [(1, .pointer (some ⟨bb1, 0, none⟩)), (2, .pointer (some ⟨bb2, 0, none⟩)), (4, .pointer (some ⟨bb3, 0, none⟩)), (5, .int .i64 i3)] ∧ SH w w' [Ch.box bb3 [.int .i64 i1, .int .i64 i2] 291, Ch.box bb2 [.int .i64 0, .int .i64 0] 291, Ch.box bb1 [.slice p1 t.Slews.length k1, .slice p2 t.Loads.length k2, .slice p3 t.Values.length k3] 267]) n ⟨_, _, _, hF, rfl, h⟩ ?_
 rintro m1 e1 w8 ⟨i1, i2, i3, hF, rfl, h⟩
 rcases m1 with _ | m1
 ·rw [qbO] at hF
  cases hF
 rw [qbO] at hF
 refine zSSR (zp2 rfl (zl 2 2 h rfl (zp2 rfl (qb ?_))))
 refine qp rfl hF ?_ ?_ <;> intro hF
 ·refine zKSB (qbl ?_)
  refine qfO [9] (fun w' => SH w w' [Ch.box bb3 [.int .i64 i1, .int .i64 i2] 291, Ch.box bb1 [.slice p1 t.Slews.length k1, .slice p2 t.Loads.length k2, .slice p3 t.Values.length k3] 267]) rfl 10 rfl #[ff, ff, ff, ff, ff, ff, ff, ff, ff, ff] (by kernel_rfl) (fun w9 hb => ?_)
  replace h := h.ext hb
  clear hb
  refine qk 0 rfl #[tt, ff, ff, ff, ff, ff, ff, ff, ff, ff] (by kernel_rfl) (by kernel_rfl) (fun w' hw => v_p qc rfl w') (h.pick [0, 2] rfl) rfl ?_
  refine qk 1 rfl #[tt, tt, ff, ff, ff, ff, ff, ff, ff, ff] (by kernel_rfl) (by kernel_rfl) (fun w' hw => qbE qc (hw.box 0 rfl) (j := 0) rfl rfl rfl) (h.pick [0, 2] rfl) rfl ?_
  refine qk 2 rfl #[tt, tt, tt, ff, ff, ff, ff, ff, ff, ff] (by kernel_rfl) (by kernel_rfl) (fun w' hw => v_p qc rfl w') (h.pick [0, 2] rfl) rfl ?_
  refine qk 3 rfl #[tt, tt, tt, tt, ff, ff, ff, ff, ff, ff] (by kernel_rfl) (by kernel_rfl) (fun w' hw => qbE qc (hw.box 1 rfl) (j := 2) rfl rfl rfl) (h.pick [0, 2] rfl) rfl ?_
  refine qk 4 rfl #[tt, tt, tt, tt, tt, ff, ff, ff, ff, ff] (by kernel_rfl) (by kernel_rfl) (fun w' hw => v_p qc rfl w') (h.pick [0, 2] rfl) rfl ?_
  obtain ⟨y3, hy3, hF⟩ := qd hF
  have he3 := qg hy3
  obtain ⟨b3, o_3, q3, cs4, hp3, hq3, -, hr4, hc5⟩ := s3.at hy3
  obtain rfl := hr4
  refine qk 5 rfl #[tt, tt, tt, tt, tt, tt, ff, ff, ff, ff] (by kernel_rfl) (by kernel_rfl) (fun w' hw => qfA qc hp3 hq3 ⟨he3.1, he3.2.1⟩ rfl rfl rfl rfl rfl rfl) (h.pick [0, 2] rfl) rfl ?_
  refine qk 6 rfl #[tt, tt, tt, tt, tt, tt, tt, ff, ff, ff] (by kernel_rfl) (by kernel_rfl) (fun w' hw => qbE qc (hc5.below hw.below) (j := 0) rfl rfl rfl) (h.pick [0, 2] rfl) rfl ?_
  refine qk 7 rfl #[tt, tt, tt, tt, tt, tt, tt, tt, ff, ff] (by kernel_rfl) (by kernel_rfl) (fun w' hw => v_p qc rfl w') (h.pick [0, 2] rfl) rfl ?_
  refine qk 8 rfl #[tt, tt, tt, tt, tt, tt, tt, tt, tt, ff] (by kernel_rfl) (by kernel_rfl) (fun w' hw => v_p qc rfl w') (h.pick [0, 2] rfl) rfl ?_
  refine qax 9 rfl #[tt, tt, tt, tt, tt, tt, tt, tt, tt, tt] (by kernel_rfl) (by kernel_rfl) ?_
  refine zs 0 h rfl ?_
  intro w10 h
  refine qao (fun hs => absurd (hs 9 (by decide)) (by decide)) ?_
  refine qdn (by kernel_rfl) ?_
  refine qfO [9] (fun w' => SH w w' [Ch.box bb3 [.int .i64 (if y3 < i1 then y3 else i1), .int .i64 i2] 291, Ch.box bb1 [.slice p1 t.Slews.length k1, .slice p2 t.Loads.length k2, .slice p3 t.Values.length k3] 267]) rfl 10 rfl #[ff, ff, ff, ff, ff, ff, ff, ff, ff, ff] (by kernel_rfl) (fun w11 hb => ?_)
  replace h := h.ext hb
  clear hb
  refine qk 0 rfl #[tt, ff, ff, ff, ff, ff, ff, ff, ff, ff] (by kernel_rfl) (by kernel_rfl) (fun w' hw => v_p qc rfl w') (h.pick [0, 2] rfl) rfl ?_
  refine qk 1 rfl #[tt, tt, ff, ff, ff, ff, ff, ff, ff, ff] (by kernel_rfl) (by kernel_rfl) (fun w' hw => qbE qc (hw.box 0 rfl) (j := 1) rfl rfl rfl) (h.pick [0, 2] rfl) rfl ?_
  refine qk 2 rfl #[tt, tt, tt, ff, ff, ff, ff, ff, ff, ff] (by kernel_rfl) (by kernel_rfl) (fun w' hw => v_p qc rfl w') (h.pick [0, 2] rfl) rfl ?_
  refine qk 3 rfl #[tt, tt, tt, tt, ff, ff, ff, ff, ff, ff] (by kernel_rfl) (by kernel_rfl) (fun w' hw => qbE qc (hw.box 1 rfl) (j := 2) rfl rfl rfl) (h.pick [0, 2] rfl) rfl ?_
  refine qk 4 rfl #[tt, tt, tt, tt, tt, ff, ff, ff, ff, ff] (by kernel_rfl) (by kernel_rfl) (fun w' hw => v_p qc rfl w') (h.pick [0, 2] rfl) rfl ?_
  obtain ⟨y4, hy4, hF⟩ := qd hF
  have he4 := qg hy4
  obtain ⟨b4, o_4, q4, cs5, hp4, hq4, -, hr5, hc6⟩ := s3.at hy4
  obtain rfl := hr5
  refine qk 5 rfl #[tt, tt, tt, tt, tt, tt, ff, ff, ff, ff] (by kernel_rfl) (by kernel_rfl) (fun w' hw => qfA qc hp4 hq4 ⟨he4.1, he4.2.1⟩ rfl rfl rfl rfl rfl rfl) (h.pick [0, 2] rfl) rfl ?_
  refine qk 6 rfl #[tt, tt, tt, tt, tt, tt, tt, ff, ff, ff] (by kernel_rfl) (by kernel_rfl) (fun w' hw => qbE qc (hc6.below hw.below) (j := 0) rfl rfl rfl) (h.pick [0, 2] rfl) rfl ?_
  refine qk 7 rfl #[tt, tt, tt, tt, tt, tt, tt, tt, ff, ff] (by kernel_rfl) (by kernel_rfl) (fun w' hw => v_p qc rfl w') (h.pick [0, 2] rfl) rfl ?_
  refine qk 8 rfl #[tt, tt, tt, tt, tt, tt, tt, tt, tt, ff] (by kernel_rfl) (by kernel_rfl) (fun w' hw => v_p qc rfl w') (h.pick [0, 2] rfl) rfl ?_
  refine qax 9 rfl #[tt, tt, tt, tt, tt, tt, tt, tt, tt, tt] (by kernel_rfl) (by kernel_rfl) ?_
  refine zs 0 h rfl ?_
  intro w12 h
  refine qao (fun hs => absurd (hs 9 (by decide)) (by decide)) ?_
  refine qdn (by kernel_rfl) ?_
  exact qfP (qB (zp3 rfl (qb (qy m1 [(1, _), (2, _), (4, _), (5, _)] (Nat.lt_succ_self m1) ⟨rfl, rfl, rfl, rfl, trivial⟩ ⟨_, _, _, hF, rfl, h⟩))))
 refine qF rfl ?_
 obtain rfl := qj hF; replace hF := hK1
 refine zSR (zl 0 0 h rfl (zs 1 h rfl ?_))
 intro w13 h
 replace h : SH _ _ [Ch.box bb3 [.int .i64 i1, .int .i64 i2] 291, Ch.box bb2 [.int .i64 i1, .int .i64 i2] 291, Ch.box bb1 [.slice p1 t.Slews.length k1, .slice p2 t.Loads.length k2, .slice p3 t.Values.length k3] 267] := h
 refine zp1 rfl (qb ?_)
 obtain rfl := qj hF
 exact qad qc (ρ := (qiw × Int)) [GoT.v qiw [.int .i64 i1, .int .i64 i2], GoT.v Int [.int .i64 0]] h ⟨⟨_, _, _, rfl, rfl, h.box 1 rfl, rfl⟩, rfl, trivial⟩ (PV.done h (qe6 h (qas (S := fun _ => False) (qnv (⟨i1, i2⟩ : qiw))) (qai (qas (S := fun _ => False) rfl)) (by rfl)))

def qb1 (list : (List qJ)) (positive : Bool) : Nat → Int → Option (Flow Bool Int)
 | 0, _ => none
 | n + 1, i1 =>
  bif decide (i1 < 2) then
   (idx list i1).bind fun y1 =>
   (qe7 n y1).bind fun o => match o with
    | (r2, r3) =>
     bif (r3 != 0) then
      some (.ret false)
     else
      bif positive then
       bif decide (r2.Early < 0) then
        some (.ret false)
       else
        qb1 list positive n (W64 (i1 + 1))
      else
       qb1 list positive n (W64 (i1 + 1))
  else
   some (.nxt i1)

def qda (n : Nat) (list : (List qJ)) (positive : Bool) : Option Bool :=
 bif ((list.length : Int) != 2) then
  some false
 else
  (qb1 list positive n 0).bind fun o => match o with
  | .ret r => some r
  | .nxt _ =>
   some true

theorem qeT {n : Nat} {w : World} {list : (List qJ)} {positive : Bool} {cs1 : List Value} (ha1 : GoT.R w (old w) list cs1) {r : Bool} (hF : qda n list positive = some r) : RetV Tryz.prog 227 [GoT.v (List qJ) cs1, .bool positive] w r := by
 obtain ⟨p1, k1, rfl, s1⟩ := ha1
 refine qf Tryz.func227 rfl (m := 33) rfl rfl (fun h => ?_)
 rw [qda] at hF
 refine zSR (zp1 rfl (zNSSR (zp3 rfl (qb ?_))))
 refine qp rfl hF ?_ ?_ <;> intro hF
 ·exact zSR (zp1 rfl (qb (qx qc h hF ⟨rfl, trivial⟩)))
 refine zKSSR (zp1 rfl (qb ?_))
 obtain ⟨o1, hF, hK1⟩ := qd hF
 refine qA (qW [(0, _), (1, _), (5, _)] ⟨rfl, rfl, rfl, trivial⟩ ?_)
 refine qG (fun m e w' => ∃ (i1 : Int), qb1 list positive m i1 = some o1 ∧ e = [(0, .slice p1 list.length k1), (1, .bool positive), (5, .int .i64 i1)] ∧ SH w w' []) n ⟨_, hF, rfl, h⟩ ?_
 rintro m1 e1 w1 ⟨i1, hF, rfl, h⟩
 rcases m1 with _ | m1
 ·rw [qb1] at hF
  cases hF
 rw [qb1] at hF
 refine zSSR (zp2 rfl (qb ?_))
 refine qp rfl hF ?_ ?_ <;> intro hF
 ·refine zKSBSR (zp2 rfl ?_)
  obtain ⟨y1, hy1, hF⟩ := qd hF
  have he1 := qg hy1
  obtain ⟨b1, o_1, q1, cs2, hp1, hq1, -, hr1, hc3⟩ := s1.at hy1
  obtain ⟨p2, k2, p3, k3, p4, k4, rfl, s2, s3, s4⟩ := qbP hr1
  refine zxe hp1 hq1 he1 rfl (zc 0 (hc3.below h.below) rfl ?_)
  obtain ⟨r1, hr2, hF⟩ := qd hF
  obtain ⟨r2, r3⟩ := r1
  refine qie (r2, r3) h call234 (qkp (qhJ y1 (h.oldS s2) (h.oldS s3) (h.oldS s4)) hr2) rfl rfl rfl rfl ?_
  intro w2 S1 us1 hv1 hr3
  obtain ⟨S2, S3, cs3, us2, rfl, hv2, hr4⟩ := hv1.cons hr3
  obtain rfl := qoN (hv2.sh.own 0 rfl)
  obtain ⟨rfl, h⟩ := hv2.lastI hr4
  refine zp3 rfl (qT qc h rfl rfl rfl ?_)
  intro w3 bb1 h
  refine zs 0 h rfl ?_
  intro w4 h
  refine zp1 rfl (zNSR (zp3 rfl ?_))
  by_cases hc4 : (r3 != 0) = true
  ·replace hF := bifT hc4 hF
   refine qC hc4 (t := 25) rfl (zn5 rfl (zn1 rfl (zp1 rfl (qb (qez rfl rfl (zSR ?_))))))
   refine zp1 rfl (qb ?_)
   obtain rfl := qj hF; replace hF := hK1
   exact qx qc h hF ⟨rfl, trivial⟩
  replace hc4 := zb hc4
  replace hF := bifF hc4 hF
  refine qD hc4 (t := 25) rfl (qa rfl (zp1 rfl (qa rfl (zp1 rfl ?_))))
  by_cases hc5 : positive = true
  ·replace hF := bifT hc5 hF
   refine qC hc5 (t := 27) rfl (qa rfl (zp1 rfl (qa rfl (zl 0 0 h rfl (qa rfl (zp1 rfl (qa rfl (zp2 rfl (qb ?_)))))))))
   refine qp rfl hF ?_ ?_ <;> intro hF
   ·refine zSR (zp1 rfl (qb ?_))
    obtain rfl := qj hF; replace hF := hK1
    exact qx qc h hF ⟨rfl, trivial⟩
   refine zKER (zp3 rfl (qb ?_))
   replace h := h.pick [] rfl
   exact qy m1 [(0, _), (1, _), (5, _)] (Nat.lt_succ_self m1) ⟨rfl, rfl, rfl, trivial⟩ ⟨_, hF, rfl, h⟩
  replace hc5 := zb hc5
  replace hF := bifF hc5 hF
  refine qD hc5 (t := 27) rfl (zn3 rfl (qa rfl (zp2 rfl (qb (qcG rfl rfl (zKER ?_))))))
  refine zp3 rfl (qb ?_)
  replace h := h.pick [] rfl
  exact qy m1 [(0, _), (1, _), (5, _)] (Nat.lt_succ_self m1) ⟨rfl, rfl, rfl, trivial⟩ ⟨_, hF, rfl, h⟩
 refine qF rfl ?_
 obtain rfl := qj hF; replace hF := hK1
 exact zSR (zp1 rfl (qb (qx qc h hF ⟨rfl, trivial⟩)))

def qhT (n : Nat) (a_0 : qE) (a_1 : qah) : Option Bool :=
 (
  (qaA n a_1.From 0 (W64 ((W64 ((a_0.Pins.length : Int) - 1)) - 1))).bind fun r7 =>
  bif (!r7) then
   some true
  else
   (qaA n a_1.To 0 (W64 ((a_0.Pins.length : Int) - 1))).bind fun r8 =>
   some (!r8)).bind fun b1 =>
 bif b1 then
  some false
 else
  (idx a_0.Pins a_1.From).bind fun y1 =>
  bif (a_1.Kind == 1) then
   bif (!y1.Clock) then
    bif (a_1.To == (W64 ((a_0.Pins.length : Int) - 1))) then
     (qaA n a_1.Sense 1 3).bind fun r1 =>
     bif r1 then
      (qda n a_1.Delay true).bind fun r2 =>
      bif r2 then
       (qda n a_1.Slew true).bind fun r3 =>
       some r3
      else
       some false
     else
      some false
    else
     some false
   else
    some false
  else
   (
    bif (a_1.Kind == 2) then
     some (a_1.Kind == 2)
    else
     some (a_1.Kind == 3)).bind fun b3 =>
   bif b3 then
    bif y1.Clock then
     bif (a_1.To == (W64 ((a_0.Pins.length : Int) - 1))) then
      bif (a_1.Sense == 0) then
       (qda n a_1.Delay true).bind fun r4 =>
       bif r4 then
        (qda n a_1.Slew true).bind fun r5 =>
        some r5
       else
        some false
      else
       some false
     else
      some false
    else
     some false
   else
    (
     bif (a_1.Kind == 4) then
      some (a_1.Kind == 4)
     else
      some (a_1.Kind == 5)).bind fun b4 =>
    bif b4 then
     bif y1.Clock then
      bif decide (a_1.To < (W64 ((a_0.Pins.length : Int) - 1))) then
       (idx a_0.Pins a_1.To).bind fun y2 =>
       bif (!y2.Clock) then
        bif (a_1.Sense == 0) then
         (qda n a_1.Delay false).bind fun r6 =>
         bif r6 then
          some ((a_1.Slew.length : Int) == 0)
         else
          some false
        else
         some false
       else
        some false
      else
       some false
     else
      some false
    else
     some false

theorem qmG {n : Nat} {w : World} {a_0 : qE} {a_1 : qah} {cs1 : List Value} (ha1 : GoT.R w (old w) a_0 cs1) {cs2 : List Value} (ha2 : GoT.R w (old w) a_1 cs2) {r : Bool} (hF : qhT n a_0 a_1 = some r) : RetV Tryz.prog 216 [GoT.v qE cs1, GoT.v qah cs2] w r := by
 obtain ⟨p1, k1, p2, k2, p3, k3, rfl, s1, s2, s3⟩ := qaa ha1
 obtain ⟨p4, k4, p5, k5, rfl, s4, s5⟩ := qaD ha2
 refine qf Tryz.func216 rfl (m := 119) rfl rfl (fun h => ?_)
 rw [qhT] at hF
 refine zSR (qP h rfl rfl ?_)
 intro w1 bb1 h
 refine qP h rfl rfl ?_
 intro w2 bb2 h
 refine zp1 rfl (zNSR (zp1 rfl (zl 1 2 h rfl (zp3 rfl (zNSS ?_)))))
 obtain ⟨KF3, hKF3, o3, hF, hK3⟩ := bindE hF
 refine qdR (fun e w' => ∃ (b1 : Bool), KF3 b1 = some r ∧ e = [(2, .pointer (some ⟨bb1, 0, none⟩)), (3, .pointer (some ⟨bb2, 0, none⟩)), (5, .int .i64 (W64 ((a_0.Pins.length : Int) - 1))), (23, .bool b1)] ∧ SH w w' [Ch.box bb2 [.int .i64 a_1.Kind, .int .i64 a_1.From, .int .i64 a_1.To, .int .i64 a_1.Sense, .slice p4 a_1.Delay.length k4, .slice p5 a_1.Slew.length k5] 211, Ch.box bb1 [.string a_0.Name, .int .i64 a_0.Kind, .slice p1 a_0.Pins.length k1, .slice p2 a_0.Arcs.length k2, .slice p3 a_0.Truth.length k3, .int .i64 a_0.Leak, .int .i64 a_0.Energy] 183]) ?_ ?_
 ·refine qB (zp1 rfl (zl 0 1 h rfl (zp2 rfl ?_)))
  obtain ⟨r7, hr9, hF⟩ := qd hF
  refine qm r7 h call77 (qal hr9) rfl rfl rfl rfl ?_
  intro w11 h
  refine zp2 rfl ?_
  by_cases hc22 : (!r7) = true
  ·replace hF := bifT hc22 hF
   refine qC hc22 (t := 17) rfl (zn5 rfl (zp1 rfl (qb ?_)))
   obtain rfl := qj hF
   exact qu [(2, _), (3, _), (5, _), (23, _)] ⟨rfl, rfl, rfl, rfl, trivial⟩ ⟨_, hK3, rfl, h⟩
  replace hc22 := zb hc22
  replace hF := bifF hc22 hF
  refine qD hc22 (t := 17) rfl (qa rfl (zp1 rfl (qa rfl (zl 0 2 h rfl (qa rfl (zp1 rfl (qa rfl ?_)))))))
  obtain ⟨r8, hr10, hF⟩ := qd hF
  refine qm r8 h call77 (qal hr10) rfl rfl rfl rfl ?_
  intro w12 h
  refine qa rfl (zp2 rfl (qb ?_))
  obtain rfl := qj hF
  exact qu [(2, _), (3, _), (5, _), (23, _)] ⟨rfl, rfl, rfl, rfl, trivial⟩ ⟨_, hK3, rfl, h⟩
 rintro e3 w13 ⟨b1, hF, rfl, h⟩
 subst hKF3
 refine qp rfl hF ?_ ?_ <;> intro hF
 ·exact zSR (zp1 rfl (qb (qx qc h hF ⟨rfl, trivial⟩)))
 refine zKSR (zp1 rfl (zl 1 2 h rfl (zp1 rfl (zl 0 1 h rfl ?_))))
 obtain ⟨y1, hy1, hF⟩ := qd hF
 have he1 := qg hy1
 obtain ⟨b2, o_1, q1, cs3, hp1, hq1, -, hr1, hc2⟩ := s1.at hy1
 obtain rfl := qbx hr1
 refine zxe hp1 hq1 he1 rfl (zp1 rfl (zc 3 (hc2.below h.below) rfl (zp1 rfl (zNSSR (zp1 rfl (zl 0 0 h rfl (qb (qA ?_))))))))
 refine zSR (zp2 rfl (qb ?_))
 refine qp rfl hF ?_ ?_ <;> intro hF
 ·refine zSR (zp3 rfl ?_)
  by_cases hc4 : (!y1.Clock) = true
  ·replace hF := bifT hc4 hF
   refine qC hc4 (t := 37) rfl (qa rfl (zp1 rfl (qa rfl (zl 0 2 h rfl (qa rfl (zp1 rfl (qa rfl (zp3 rfl ?_))))))))
   by_cases hc5 : (a_1.To == (W64 ((a_0.Pins.length : Int) - 1))) = true
   ·replace hF := bifT hc5 hF
    refine qC hc5 (t := 43) rfl (qa rfl (zp1 rfl (qa rfl (zl 0 3 h rfl (qa rfl ?_)))))
    obtain ⟨r1, hr2, hF⟩ := qd hF
    refine qm r1 h call77 (qal hr2) rfl rfl rfl rfl ?_
    intro w3 h
    refine zp2 rfl ?_
    by_cases hc6 : r1 = true
    ·replace hF := bifT hc6 hF
     refine qC hc6 (t := 48) rfl (qa rfl (zp1 rfl (qa rfl (zl 0 4 h rfl (qa rfl ?_)))))
     obtain ⟨r2, hr3, hF⟩ := qd hF
     refine qm r2 h call227 (qeT ⟨_, _, rfl, (h.oldS s4)⟩ hr3) rfl rfl rfl rfl ?_
     intro w4 h
     refine zp2 rfl ?_
     by_cases hc7 : r2 = true
     ·replace hF := bifT hc7 hF
      refine qC hc7 (t := 53) rfl (qa rfl (zp1 rfl (qa rfl (zl 0 5 h rfl (qa rfl ?_)))))
      obtain ⟨r3, hr4, hF⟩ := qd hF
      refine qm r3 h call227 (qeT ⟨_, _, rfl, (h.oldS s5)⟩ hr4) rfl rfl rfl rfl ?_
      intro w5 h
      exact zp2 rfl (qb (qx qc h hF ⟨rfl, trivial⟩))
     replace hc7 := zb hc7
     replace hF := bifF hc7 hF
     exact qD hc7 (t := 53) rfl (zn3 rfl (zp2 rfl (qb (qx qc h hF ⟨rfl, trivial⟩))))
    replace hc6 := zb hc6
    replace hF := bifF hc6 hF
    refine qD hc6 (t := 48) rfl (zn3 rfl (zp2 rfl (zn3 rfl (zp2 rfl (qb ?_)))))
    exact qx qc h hF ⟨rfl, trivial⟩
   replace hc5 := zb hc5
   replace hF := bifF hc5 hF
   refine qD hc5 (t := 43) rfl (zn3 rfl (zp2 rfl (zn3 rfl (zp2 rfl (zn1 rfl ?_)))))
   exact zn2 rfl (zp2 rfl (qb (qx qc h hF ⟨rfl, trivial⟩)))
  replace hc4 := zb hc4
  replace hF := bifF hc4 hF
  refine qD hc4 (t := 37) rfl (zn4 rfl (zp2 rfl (zn3 rfl (zp2 rfl ?_))))
  exact zn3 rfl (zp2 rfl (zn3 rfl (zp2 rfl (qb (qx qc h hF ⟨rfl, trivial⟩)))))
 refine zSSR (zp2 rfl (qb ?_))
 obtain ⟨KF2, hKF2, o2, hF, hK2⟩ := bindE hF
 refine qdR (fun e w' => ∃ (b3 : Bool), KF2 b3 = some r ∧ e = [(2, .pointer (some ⟨bb1, 0, none⟩)), (3, .pointer (some ⟨bb2, 0, none⟩)), (5, .int .i64 (W64 ((a_0.Pins.length : Int) - 1))), (6, .bool y1.Clock), (32, .int .i64 a_1.Kind), (58, .bool b3)] ∧ SH w w' [Ch.box bb2 [.int .i64 a_1.Kind, .int .i64 a_1.From, .int .i64 a_1.To, .int .i64 a_1.Sense, .slice p4 a_1.Delay.length k4, .slice p5 a_1.Slew.length k5] 211, Ch.box bb1 [.string a_0.Name, .int .i64 a_0.Kind, .slice p1 a_0.Pins.length k1, .slice p2 a_0.Arcs.length k2, .slice p3 a_0.Truth.length k3, .int .i64 a_0.Leak, .int .i64 a_0.Energy] 183]) ?_ ?_
 ·refine qp rfl hF ?_ ?_ <;> intro hF
  ·refine qd1 ?_
   obtain rfl := qj hF
   exact qu [(2, _), (3, _), (5, _), (6, _), (32, _), (58, _)] ⟨rfl, rfl, rfl, rfl, rfl, rfl, trivial⟩ ⟨_, hK2, rfl, h⟩
  refine qB (zp2 rfl (qb ?_))
  obtain rfl := qj hF
  exact qu [(2, _), (3, _), (5, _), (6, _), (32, _), (58, _)] ⟨rfl, rfl, rfl, rfl, rfl, rfl, trivial⟩ ⟨_, hK2, rfl, h⟩
 rintro e2 w10 ⟨b3, hF, rfl, h⟩
 subst hKF2
 refine qp rfl hF ?_ ?_ <;> intro hF
 ·refine zSR (zp2 rfl ?_)
  by_cases hc9 : y1.Clock = true
  ·replace hF := bifT hc9 hF
   refine qC hc9 (t := 62) rfl (qa rfl (zp1 rfl (qa rfl (zl 0 2 h rfl (qa rfl (zp1 rfl (qa rfl (zp3 rfl ?_))))))))
   by_cases hc10 : (a_1.To == (W64 ((a_0.Pins.length : Int) - 1))) = true
   ·replace hF := bifT hc10 hF
    refine qC hc10 (t := 68) rfl (qa rfl (zp1 rfl (qa rfl (zl 0 3 h rfl (qa rfl (zp3 rfl ?_))))))
    by_cases hc11 : (a_1.Sense == 0) = true
    ·replace hF := bifT hc11 hF
     refine qC hc11 (t := 73) rfl (qa rfl (zp1 rfl (qa rfl (zl 0 4 h rfl (qa rfl ?_)))))
     obtain ⟨r4, hr5, hF⟩ := qd hF
     refine qm r4 h call227 (qeT ⟨_, _, rfl, (h.oldS s4)⟩ hr5) rfl rfl rfl rfl ?_
     intro w6 h
     refine zp2 rfl ?_
     by_cases hc12 : r4 = true
     ·replace hF := bifT hc12 hF
      refine qC hc12 (t := 78) rfl (qa rfl (zp1 rfl (qa rfl (zl 0 5 h rfl (qa rfl ?_)))))
      obtain ⟨r5, hr6, hF⟩ := qd hF
      refine qm r5 h call227 (qeT ⟨_, _, rfl, (h.oldS s5)⟩ hr6) rfl rfl rfl rfl ?_
      intro w7 h
      exact zp2 rfl (qb (qx qc h hF ⟨rfl, trivial⟩))
     replace hc12 := zb hc12
     replace hF := bifF hc12 hF
     exact qD hc12 (t := 78) rfl (zn3 rfl (zp2 rfl (qb (qx qc h hF ⟨rfl, trivial⟩))))
    replace hc11 := zb hc11
    replace hF := bifF hc11 hF
    refine qD hc11 (t := 73) rfl (zn3 rfl (zp2 rfl (zn3 rfl (zp2 rfl (qb ?_)))))
    exact qx qc h hF ⟨rfl, trivial⟩
   replace hc10 := zb hc10
   replace hF := bifF hc10 hF
   refine qD hc10 (t := 68) rfl (zn3 rfl (zp2 rfl (zn3 rfl (zp2 rfl (zn1 rfl ?_)))))
   exact zn2 rfl (zp2 rfl (qb (qx qc h hF ⟨rfl, trivial⟩)))
  replace hc9 := zb hc9
  replace hF := bifF hc9 hF
  refine qD hc9 (t := 62) rfl (zn4 rfl (zp2 rfl (zn3 rfl (zp2 rfl ?_))))
  exact zn3 rfl (zp2 rfl (zn3 rfl (zp2 rfl (qb (qx qc h hF ⟨rfl, trivial⟩)))))
 refine zSSR (zp2 rfl (qb ?_))
 obtain ⟨KF1, hKF1, o1, hF, hK1⟩ := bindE hF
 refine qdR (fun e w' => ∃ (b4 : Bool), KF1 b4 = some r ∧ e = [(2, .pointer (some ⟨bb1, 0, none⟩)), (3, .pointer (some ⟨bb2, 0, none⟩)), (5, .int .i64 (W64 ((a_0.Pins.length : Int) - 1))), (6, .bool y1.Clock), (83, .bool b4)] ∧ SH w w' [Ch.box bb2 [.int .i64 a_1.Kind, .int .i64 a_1.From, .int .i64 a_1.To, .int .i64 a_1.Sense, .slice p4 a_1.Delay.length k4, .slice p5 a_1.Slew.length k5] 211, Ch.box bb1 [.string a_0.Name, .int .i64 a_0.Kind, .slice p1 a_0.Pins.length k1, .slice p2 a_0.Arcs.length k2, .slice p3 a_0.Truth.length k3, .int .i64 a_0.Leak, .int .i64 a_0.Energy] 183]) ?_ ?_
 ·refine qp rfl hF ?_ ?_ <;> intro hF
  ·refine qd1 ?_
   obtain rfl := qj hF
   exact qu [(2, _), (3, _), (5, _), (6, _), (83, _)] ⟨rfl, rfl, rfl, rfl, rfl, trivial⟩ ⟨_, hK1, rfl, h⟩
  refine qB (zp2 rfl (qb ?_))
  obtain rfl := qj hF
  exact qu [(2, _), (3, _), (5, _), (6, _), (83, _)] ⟨rfl, rfl, rfl, rfl, rfl, trivial⟩ ⟨_, hK1, rfl, h⟩
 rintro e1 w9 ⟨b4, hF, rfl, h⟩
 subst hKF1
 refine qp rfl hF ?_ ?_ <;> intro hF
 ·refine zSR (zp2 rfl ?_)
  by_cases hc14 : y1.Clock = true
  ·replace hF := bifT hc14 hF
   refine qC hc14 (t := 87) rfl (qa rfl (zp1 rfl (qa rfl (zl 0 2 h rfl (qa rfl (zp1 rfl (qa rfl (zp3 rfl ?_))))))))
   by_cases hc15 : (decide (a_1.To < (W64 ((a_0.Pins.length : Int) - 1)))) = true
   ·replace hF := bifT hc15 hF
    refine qC hc15 (t := 93) rfl (qa rfl (zp1 rfl (qa rfl (zl 1 2 h rfl (qa rfl (zp1 rfl (qa rfl (zl 0 2 h rfl (qa rfl ?_)))))))))
    obtain ⟨y2, hy2, hF⟩ := qd hF
    have he2 := qg hy2
    obtain ⟨b5, o_2, q2, cs4, hp2, hq2, -, hr7, hc16⟩ := s1.at hy2
    obtain rfl := qbx hr7
    refine zxe hp2 hq2 he2 rfl (qa rfl (zp1 rfl (qa rfl (zc 3 (hc16.below h.below) rfl (qa rfl (zp3 rfl ?_))))))
    by_cases hc17 : (!y2.Clock) = true
    ·replace hF := bifT hc17 hF
     refine qC hc17 (t := 103) rfl (qa rfl (zp1 rfl (qa rfl (zl 0 3 h rfl (qa rfl (zp3 rfl ?_))))))
     by_cases hc18 : (a_1.Sense == 0) = true
     ·replace hF := bifT hc18 hF
      refine qC hc18 (t := 108) rfl (qa rfl (zp1 rfl (qa rfl (zl 0 4 h rfl (qa rfl ?_)))))
      obtain ⟨r6, hr8, hF⟩ := qd hF
      refine qm r6 h call227 (qeT ⟨_, _, rfl, (h.oldS s4)⟩ hr8) rfl rfl rfl rfl ?_
      intro w8 h
      refine zp2 rfl ?_
      by_cases hc19 : r6 = true
      ·replace hF := bifT hc19 hF
       refine qC hc19 (t := 113) rfl (qa rfl (zp1 rfl (qa rfl (zl 0 5 h rfl (qa rfl (zp1 rfl (qa rfl (zp3 rfl (qb ?_)))))))))
       exact qx qc h hF ⟨rfl, trivial⟩
      replace hc19 := zb hc19
      replace hF := bifF hc19 hF
      exact qD hc19 (t := 113) rfl (zn4 rfl (zp2 rfl (qb (qx qc h hF ⟨rfl, trivial⟩))))
     replace hc18 := zb hc18
     replace hF := bifF hc18 hF
     refine qD hc18 (t := 108) rfl (zn3 rfl (zp2 rfl (zn4 rfl (zp2 rfl ?_))))
     exact qb (qx qc h hF ⟨rfl, trivial⟩)
    replace hc17 := zb hc17
    replace hF := bifF hc17 hF
    refine qD hc17 (t := 103) rfl (zn3 rfl (zp2 rfl (zn3 rfl (zp2 rfl (zn1 rfl ?_)))))
    exact zn3 rfl (zp2 rfl (qb (qx qc h hF ⟨rfl, trivial⟩)))
   replace hc15 := zb hc15
   replace hF := bifF hc15 hF
   refine qD hc15 (t := 93) rfl (zn5 rfl (zn3 rfl (zp2 rfl (zn1 rfl ?_))))
   refine zn2 rfl (zp2 rfl (zn3 rfl (zp2 rfl (zn3 rfl ?_))))
   exact zn1 rfl (zp2 rfl (qb (qx qc h hF ⟨rfl, trivial⟩)))
  replace hc14 := zb hc14
  replace hF := bifF hc14 hF
  refine qD hc14 (t := 87) rfl (zn4 rfl (zp2 rfl (zn5 rfl ?_)))
  refine zn3 rfl (zp2 rfl (zn3 rfl (zp2 rfl (zn2 rfl ?_))))
  exact zn1 rfl (zp2 rfl (zn4 rfl (zp2 rfl (qb (qx qc h hF ⟨rfl, trivial⟩)))))
 exact zKE (zSR (zp1 rfl (qb (qx qc h hF ⟨rfl, trivial⟩))))

def qcm (c : qE) : Nat → (List Int) → Int → Option ((List Int) × Int)
 | 0, _, _ => none
 | n + 1, x2, i1 =>
  bif decide (i1 < (c.Arcs.length : Int)) then
   (idx c.Arcs i1).bind fun y1 =>
   (idx x2 y1.Kind).bind fun y2 =>
   (idx x2 y1.Kind).bind fun _ =>
   qcm c n (setS x2 y1.Kind (W64 (y2 + 1))) (W64 (i1 + 1))
  else
   some (x2, i1)

def qgA (n : Nat) (c : qE) : Option (List Int) :=
 (mkS 6 (0 : Int)).bind fun x1 =>
 (qcm c n x1 0).bind fun o => match o with
 | (x2, _) =>
  some x2

theorem qlj {n : Nat} {w : World} {c : qE} {cs1 : List Value} (ha1 : GoT.R w (old w) c cs1) {r : (List Int)} (hF : qgA n c = some r) : RetV Tryz.prog 217 [GoT.v qE cs1] w r := by
 obtain ⟨p1, k1, p2, k2, p3, k3, rfl, s1, s2, s3⟩ := qaa ha1
 refine qf Tryz.func217 rfl (m := 25) rfl rfl (fun h => ?_)
 rw [qgA] at hF
 refine zSR (qP h rfl rfl ?_)
 intro w1 bb1 h
 refine zp1 rfl (zNSR ?_)
 obtain ⟨x1, hx1, hF⟩ := qd hF
 obtain ⟨g1, g2, hx1⟩ := qdH hx1
 refine qeJ qc Int h rfl rfl rfl rfl rfl rfl rfl rfl rfl g1 g2 hx1 rfl ?_
 intro w2 S1 p4 h
 refine zp1 rfl (zNSSR (zp1 rfl (qb ?_)))
 obtain ⟨o1, hF, hK1⟩ := qd hF
 refine qA (qW [(1, _), (3, _), (4, _)] ⟨rfl, rfl, rfl, trivial⟩ ?_)
 refine qG (fun m e w' => ∃ (x2 : (List Int)) (i1 : Int), qcm c m x2 i1 = some o1 ∧ e = [(1, .pointer (some ⟨bb1, 0, none⟩)), (3, .slice p4 x1.length x1.length), (4, .int .i64 i1)] ∧ SH w w' [Ch.own S1 (x2 : List Int) [.slice p4 x1.length x1.length], Ch.box bb1 [.string c.Name, .int .i64 c.Kind, .slice p1 c.Pins.length k1, .slice p2 c.Arcs.length k2, .slice p3 c.Truth.length k3, .int .i64 c.Leak, .int .i64 c.Energy] 183]) n ⟨_, _, hF, rfl, h⟩ ?_
 rintro m1 e1 w3 ⟨x2, i1, hF, rfl, h⟩
 rcases m1 with _ | m1
 ·rw [qcm] at hF
  cases hF
 rw [qcm] at hF
 refine zSSR (zp2 rfl (zl 1 3 h rfl (zp2 rfl (qb ?_))))
 refine qp rfl hF ?_ ?_ <;> intro hF
 ·refine zKSBR (zp2 rfl (zl 1 3 h rfl (zp1 rfl ?_)))
  obtain ⟨y1, hy1, hF⟩ := qd hF
  have he1 := qg hy1
  obtain ⟨b1, o_1, q1, cs2, hp1, hq1, -, hr1, hc2⟩ := s2.at hy1
  obtain ⟨p5, k4, p6, k5, rfl, s4, s5⟩ := qaD hr1
  refine zxe hp1 hq1 he1 rfl (zp1 rfl (zc 0 (hc2.below h.below) rfl ?_))
  obtain ⟨y2, hy2, hF⟩ := qd hF
  have he2 := qg hy2
  obtain ⟨b2, o_2, q2, cs3, hp2, hq2, -, hr2, hc3⟩ := (h.sl 0 rfl).1.at hy2
  obtain rfl := hr2
  refine zx hp2 hq2 ⟨he2.1, qa8 he2.2.1 (h.sl 0 rfl).2⟩ rfl (zc 0 hc3 rfl (zp1 rfl ?_))
  obtain ⟨y3, hy3, hF⟩ := qd hF
  have he3 := qg hy3
  obtain ⟨b3, o_3, q3, cs4, hp3, hq3, -, hr3, hc4⟩ := (h.sl 0 rfl).1.at hy3
  obtain rfl := hr3
  refine zx hp3 hq3 ⟨he3.1, qa8 he3.2.1 (h.sl 0 rfl).2⟩ rfl (qfQ qc 0 0 (W64 (y2 + 1)) h rfl hy3 hp3 hq3 rfl hc4 rfl rfl rfl rfl rfl rfl rfl ?_)
  intro w4 h
  exact zNER (zp3 rfl (qb (qy m1 [(1, _), (3, _), (4, _)] (Nat.lt_succ_self m1) ⟨rfl, rfl, rfl, trivial⟩ ⟨_, _, hF, rfl, h⟩)))
 refine qF rfl ?_
 obtain rfl := qj hF; replace hF := hK1
 refine zSR (zp2 rfl (qb ?_))
 obtain rfl := qj hF
 exact qad qc (ρ := (List Int)) [GoT.v (List Int) [.slice p4 x1.length x1.length]] h ⟨rfl, trivial⟩ (PV.done h (qai (qaB 0 h rfl)))

end Go.Fw


namespace Go.Fw
open Go Go.Proofs
open Go.RowKit (Below)
set_option maxRecDepth 100000
set_option maxHeartbeats 1600000
def qcz (a_0 : qE) (i1 : Int) (y1 : qah) : Nat → Int → Option (Flow Bool Int)
 | 0, _ => none
 | n + 1, i2 =>
  bif decide (i2 < i1) then
   (idx a_0.Arcs i2).bind fun y2 =>
   bif (y2.Kind == y1.Kind) then
    (idx a_0.Arcs i2).bind fun y3 =>
    bif (y3.From == y1.From) then
     (idx a_0.Arcs i2).bind fun y4 =>
     bif (y4.To == y1.To) then
      some (.ret false)
     else
      qcz a_0 i1 y1 n (W64 (i2 + 1))
    else
     qcz a_0 i1 y1 n (W64 (i2 + 1))
   else
    qcz a_0 i1 y1 n (W64 (i2 + 1))
  else
   some (.nxt i2)

def qdF (a_0 : qE) : Nat → Int → Option (Flow Bool Int)
 | 0, _ => none
 | n + 1, i3 =>
  bif decide (i3 < (a_0.Truth.length : Int)) then
   (idx a_0.Truth i3).bind fun y5 =>
   (qaA n y5 0 1).bind fun r6 =>
   bif (!r6) then
    some (.ret false)
   else
    qdF a_0 n (W64 (i3 + 1))
  else
   some (.nxt i3)

def qdL (a_0 : qE) : Nat → Int → Option (Flow Bool Int)
 | 0, _ => none
 | n + 1, i1 =>
  bif decide (i1 < (a_0.Arcs.length : Int)) then
   (idx a_0.Arcs i1).bind fun y1 =>
   (qhT n a_0 y1).bind fun r4 =>
   bif (!r4) then
    some (.ret false)
   else
    (qcz a_0 i1 y1 n 0).bind fun o => match o with
    | .ret r => some (.ret r)
    | .nxt _ =>
     qdL a_0 n (W64 (i1 + 1))
  else
   some (.nxt i1)

def qh0 (n : Nat) (a_0 : qE) : Option Bool :=
 (qg3 n a_0).bind fun o => match o with
  | (r2, r3) =>
   (
    bif (!r3) then
     some true
    else
     (qfl n a_0.Name).bind fun r7 =>
     bif (!r7) then
      some true
     else
      bif decide ((a_0.Arcs.length : Int) > 8) then
       some true
      else
       (qaA n a_0.Leak 0 100000).bind fun r8 =>
       bif (!r8) then
        some true
       else
        (qaA n a_0.Energy 0 100000).bind fun r9 =>
        some (!r9)).bind fun b1 =>
   bif b1 then
    some false
   else
    (qdL a_0 n 0).bind fun o => match o with
    | .ret r => some r
    | .nxt _ =>
     (qgA n a_0).bind fun r5 =>
     bif (a_0.Kind == 1) then
      (qdF a_0 n 0).bind fun o => match o with
      | .ret r => some r
      | .nxt _ =>
       bif (r2 == 0) then
        (shlS 1 (IntKind.wrap .u64 (W64 ((a_0.Pins.length : Int) - 1)))).bind fun y6 =>
        some ((a_0.Truth.length : Int) == y6)
       else
        some false
     else
      bif (a_0.Kind == 2) then
       bif (r2 == 1) then
        (idx r5 1).bind fun y7 =>
        bif (y7 == 0) then
         (idx r5 2).bind fun y8 =>
         (idx r5 3).bind fun y9 =>
         bif (!((decide (y8 > 0)) == (decide (y9 > 0)))) then
          some ((a_0.Truth.length : Int) == 0)
         else
          some false
        else
         some false
       else
        some false
      else
       bif (a_0.Kind == 3) then
        bif (r2 == 1) then
         (idx r5 1).bind fun y10 =>
         bif decide (y10 > 0) then
          (idx r5 2).bind fun y11 =>
          bif decide (y11 > 0) then
           (idx r5 3).bind fun y12 =>
           bif (y12 == 0) then
            some ((a_0.Truth.length : Int) == 0)
           else
            some false
          else
           some false
         else
          some false
        else
         some false
       else
        some false

theorem qmJ {n : Nat} {w : World} {a_0 : qE} {cs1 : List Value} (ha1 : GoT.R w (old w) a_0 cs1) {r : Bool} (hF : qh0 n a_0 = some r) : RetV Tryz.prog 202 [GoT.v qE cs1] w r := by
 obtain ⟨p1, k1, p2, k2, p3, k3, rfl, s1, s2, s3⟩ := qaa ha1
 refine qf Tryz.func202 rfl (m := 182) rfl rfl (fun h => ?_)
 rw [qh0] at hF
 refine zSR (qP h rfl rfl ?_)
 intro w1 bb1 h
 refine zp1 rfl (zNSR (zl 0 0 h rfl ?_))
 obtain ⟨r1, hr1, hF⟩ := qd hF
 obtain ⟨r2, r3⟩ := r1
 refine qie (r2, r3) h call215 (ql6 (h.old ha1) hr1) rfl rfl rfl rfl ?_
 intro w2 S1 us1 hv1 hr2
 obtain ⟨S2, us2, rfl, hv2, hr3⟩ := hv1.consI hr2
 obtain ⟨rfl, h⟩ := hv2.lastB hr3
 refine zp5 rfl (zNSS ?_)
 obtain ⟨KF1, hKF1, o4, hF, hK4⟩ := bindE hF
 refine qdR (fun e w' => ∃ (b1 : Bool), KF1 b1 = some r ∧ e = [(1, .pointer (some ⟨bb1, 0, none⟩)), (3, .int .i64 r2), (40, .bool b1)] ∧ SH w w' [Ch.box bb1 [.string a_0.Name, .int .i64 a_0.Kind, .slice p1 a_0.Pins.length k1, .slice p2 a_0.Arcs.length k2, .slice p3 a_0.Truth.length k3, .int .i64 a_0.Leak, .int .i64 a_0.Energy] 183]) ?_ ?_
 ·refine qB (zp3 rfl ?_)
  by_cases hc32 : (!r3) = true
  ·replace hF := bifT hc32 hF
   refine qC hc32 (t := 17) rfl (zn4 rfl (zp2 rfl (zn4 rfl (zp1 rfl ?_))))
   refine zp1 rfl (zn4 rfl (zp2 rfl (zn4 rfl (zp1 rfl ?_))))
   refine qb ?_
   obtain rfl := qj hF
   exact qu [(1, _), (3, _), (40, _)] ⟨rfl, rfl, rfl, trivial⟩ ⟨_, hK4, rfl, h⟩
  replace hc32 := zb hc32
  replace hF := bifF hc32 hF
  refine qD hc32 (t := 17) rfl (qa rfl (zp1 rfl (qa rfl (zl 0 0 h rfl (qa rfl ?_)))))
  obtain ⟨r7, hr19, hF⟩ := qd hF
  refine qm r7 h call203 (qh9 hr19) rfl rfl rfl rfl ?_
  intro w18 h
  refine qa rfl (zp3 rfl ?_)
  by_cases hc33 : (!r7) = true
  ·replace hF := bifT hc33 hF
   refine qC hc33 (t := 23) rfl (zn4 rfl (zp2 rfl (zn4 rfl (zp1 rfl ?_))))
   refine zp1 rfl (zn4 rfl (zp1 rfl (qb ?_)))
   obtain rfl := qj hF
   exact qu [(1, _), (3, _), (40, _)] ⟨rfl, rfl, rfl, trivial⟩ ⟨_, hK4, rfl, h⟩
  replace hc33 := zb hc33
  replace hF := bifF hc33 hF
  refine qD hc33 (t := 23) rfl (qa rfl (zp1 rfl (qa rfl (zl 0 3 h rfl (qa rfl (zp1 rfl (qa rfl (zp3 rfl ?_))))))))
  by_cases hc34 : (decide ((a_0.Arcs.length : Int) > 8)) = true
  ·replace hF := bifT hc34 hF
   refine qC hc34 (t := 29) rfl (zn4 rfl (zp2 rfl (zn4 rfl (zp1 rfl ?_))))
   refine qb ?_
   obtain rfl := qj hF
   exact qu [(1, _), (3, _), (40, _)] ⟨rfl, rfl, rfl, trivial⟩ ⟨_, hK4, rfl, h⟩
  replace hc34 := zb hc34
  replace hF := bifF hc34 hF
  refine qD hc34 (t := 29) rfl (qa rfl (zp1 rfl (qa rfl (zl 0 5 h rfl (qa rfl ?_)))))
  obtain ⟨r8, hr20, hF⟩ := qd hF
  refine qm r8 h call77 (qal hr20) rfl rfl rfl rfl ?_
  intro w19 h
  refine qa rfl (zp3 rfl ?_)
  by_cases hc35 : (!r8) = true
  ·replace hF := bifT hc35 hF
   refine qC hc35 (t := 35) rfl (zn4 rfl (zp1 rfl (qb ?_)))
   obtain rfl := qj hF
   exact qu [(1, _), (3, _), (40, _)] ⟨rfl, rfl, rfl, trivial⟩ ⟨_, hK4, rfl, h⟩
  replace hc35 := zb hc35
  replace hF := bifF hc35 hF
  refine qD hc35 (t := 35) rfl (qa rfl (zp1 rfl (qa rfl (zl 0 6 h rfl (qa rfl ?_)))))
  obtain ⟨r9, hr21, hF⟩ := qd hF
  refine qm r9 h call77 (qal hr21) rfl rfl rfl rfl ?_
  intro w20 h
  refine qa rfl (zp2 rfl (qb ?_))
  obtain rfl := qj hF
  exact qu [(1, _), (3, _), (40, _)] ⟨rfl, rfl, rfl, trivial⟩ ⟨_, hK4, rfl, h⟩
 rintro e4 w21 ⟨b1, hF, rfl, h⟩
 subst hKF1
 refine qp rfl hF ?_ ?_ <;> intro hF
 ·exact zSR (zp1 rfl (qb (qx qc h hF ⟨rfl, trivial⟩)))
 refine zKSSR (zp1 rfl (qb ?_))
 obtain ⟨o1, hF, hK1⟩ := qd hF
 refine qA (qW [(1, _), (3, _), (5, _)] ⟨rfl, rfl, rfl, trivial⟩ ?_)
 refine qG (fun m e w' => ∃ (i1 : Int), qdL a_0 m i1 = some o1 ∧ e = [(1, .pointer (some ⟨bb1, 0, none⟩)), (3, .int .i64 r2), (5, .int .i64 i1)] ∧ SH w w' [Ch.box bb1 [.string a_0.Name, .int .i64 a_0.Kind, .slice p1 a_0.Pins.length k1, .slice p2 a_0.Arcs.length k2, .slice p3 a_0.Truth.length k3, .int .i64 a_0.Leak, .int .i64 a_0.Energy] 183]) n ⟨_, hF, rfl, h⟩ ?_
 rintro m1 e1 w3 ⟨i1, hF, rfl, h⟩
 rcases m1 with _ | m1
 ·rw [qdL] at hF
  cases hF
 rw [qdL] at hF
 refine zSSR (zp2 rfl (zl 0 3 h rfl (zp2 rfl (qb ?_))))
 refine qp rfl hF ?_ ?_ <;> intro hF
 ·refine zKSBSR (zp1 rfl (zl 0 3 h rfl (zp1 rfl ?_)))
  obtain ⟨y1, hy1, hF⟩ := qd hF
  have he1 := qg hy1
  obtain ⟨b2, o_1, q1, cs2, hp1, hq1, -, hr5, hc3⟩ := s2.at hy1
  obtain ⟨p4, k4, p5, k5, rfl, s4, s5⟩ := qaD hr5
  refine zxe hp1 hq1 he1 rfl (zc 0 (hc3.below h.below) rfl (qT qc h rfl rfl rfl ?_))
  intro w4 bb2 h
  refine zs 0 h rfl ?_
  intro w5 h
  refine zNSSR (zl 1 0 h rfl (zl 0 0 h rfl ?_))
  obtain ⟨r4, hr6, hF⟩ := qd hF
  refine qm r4 h call216 (qmG (h.old ha1) (qf5 y1 (h.oldS s4) (h.oldS s5)) hr6) rfl rfl rfl rfl ?_
  intro w6 h
  refine zp1 rfl (qb ?_)
  refine qp rfl hF ?_ ?_ <;> intro hF
  ·refine zSR (zp1 rfl (qb ?_))
   obtain rfl := qj hF; replace hF := hK1
   exact qx qc h hF ⟨rfl, trivial⟩
  refine zKSR (zp1 rfl (qb ?_))
  obtain ⟨o2, hF, hK2⟩ := qd hF
  refine qA (qW [(1, _), (3, _), (5, _), (6, _), (7, _)] ⟨rfl, rfl, rfl, rfl, rfl, trivial⟩ ?_)
  refine qG (fun m e w' => ∃ (i2 : Int), qcz a_0 i1 y1 m i2 = some o2 ∧ e = [(1, .pointer (some ⟨bb1, 0, none⟩)), (3, .int .i64 r2), (5, .int .i64 i1), (6, .pointer (some ⟨bb2, 0, none⟩)), (7, .int .i64 i2)] ∧ SH w w' [Ch.box bb2 [.int .i64 y1.Kind, .int .i64 y1.From, .int .i64 y1.To, .int .i64 y1.Sense, .slice p4 y1.Delay.length k4, .slice p5 y1.Slew.length k5] 211, Ch.box bb1 [.string a_0.Name, .int .i64 a_0.Kind, .slice p1 a_0.Pins.length k1, .slice p2 a_0.Arcs.length k2, .slice p3 a_0.Truth.length k3, .int .i64 a_0.Leak, .int .i64 a_0.Energy] 183]) m1 ⟨_, hF, rfl, h⟩ ?_
  rintro m2 e2 w7 ⟨i2, hF, rfl, h⟩
  rcases m2 with _ | m2
  ·rw [qcz] at hF
   cases hF
  rw [qcz] at hF
  refine zSSR (zp3 rfl (qb ?_))
  refine qp rfl hF ?_ ?_ <;> intro hF
  ·refine zKSB (qbl ?_)
   refine qb3 rfl (by kernel_rfl) ?_
   refine zd1 rfl ?_
   refine zdl 1 3 h rfl ?_
   refine zd1 rfl ?_
   obtain ⟨y2, hy2, hF⟩ := qd hF
   have he2 := qg hy2
   obtain ⟨b3, o_2, q2, cs3, hp2, hq2, -, hr7, hc6⟩ := s2.at hy2
   obtain ⟨p6, k6, p7, k7, rfl, s6, s7⟩ := qaD hr7
   refine zdxe hp2 hq2 he2 rfl ?_
   refine zd1 rfl ?_
   refine zdc 0 (hc6.below h.below) rfl ?_
   refine zd1 rfl ?_
   refine zdl 0 0 h rfl ?_
   refine zd2 rfl ?_
   by_cases hc7 : (y2.Kind == y1.Kind) = true
   ·replace hF := bifT hc7 hF
    refine qch hc7 (t := 71) rfl (qh rfl (zd1 rfl (qh rfl ?_)))
    refine zdl 1 3 h rfl ?_
    refine qh rfl (zd1 rfl (qh rfl ?_))
    obtain ⟨y3, hy3, hF⟩ := qd hF
    have he3 := qg hy3
    obtain ⟨b4, o_3, q3, cs4, hp3, hq3, -, hr8, hc8⟩ := s2.at hy3
    obtain ⟨p8, k8, p9, k9, rfl, s8, s9⟩ := qaD hr8
    refine zdxe hp3 hq3 he3 rfl ?_
    refine qh rfl (zd1 rfl (qh rfl ?_))
    refine zdc 1 (hc8.below h.below) rfl ?_
    refine qh rfl (zd1 rfl (qh rfl ?_))
    refine zdl 0 1 h rfl ?_
    refine qh rfl (zd3 rfl ?_)
    by_cases hc9 : (y3.From == y1.From) = true
    ·replace hF := bifT hc9 hF
     refine qch hc9 (t := 82) rfl (qh rfl (zd1 rfl (qh rfl ?_)))
     refine zdl 1 3 h rfl ?_
     refine qh rfl (zd1 rfl (qh rfl ?_))
     obtain ⟨y4, hy4, hF⟩ := qd hF
     have he4 := qg hy4
     obtain ⟨b5, o_4, q4, cs5, hp4, hq4, -, hr9, hc10⟩ := s2.at hy4
     obtain ⟨p10, k10, p11, k11, rfl, s10, s11⟩ := qaD hr9
     refine zdxe hp4 hq4 he4 rfl ?_
     refine qh rfl (zd1 rfl (qh rfl ?_))
     refine zdc 2 (hc10.below h.below) rfl ?_
     refine qh rfl (zd1 rfl (qh rfl ?_))
     refine zdl 0 2 h rfl ?_
     refine qh rfl (zd2 rfl ?_)
     refine qaR (fun w8 hb => ?_)
     replace h := h.ext hb
     clear hb
     refine qp rfl hF ?_ ?_ <;> intro hF
     ·refine zSR (zp1 rfl (qb ?_))
      obtain rfl := qj hF; replace hF := hK2
      obtain rfl := qj hF; replace hF := hK1
      exact qx qc h hF ⟨rfl, trivial⟩
     exact zKER (zp3 rfl (qb (qy m2 [(1, _), (3, _), (5, _), (6, _), (7, _)] (Nat.lt_succ_self m2) ⟨rfl, rfl, rfl, rfl, rfl, trivial⟩ ⟨_, hF, rfl, h⟩)))
    replace hc9 := zb hc9
    replace hF := bifF hc9 hF
    refine qci hc9 (t := 82) rfl (qi rfl rfl rfl (qi rfl rfl rfl (qi rfl rfl rfl (qi rfl rfl rfl (qi rfl rfl rfl (qi rfl rfl rfl (qi rfl rfl rfl (qi rfl rfl rfl (qi rfl rfl rfl (zd1 rfl ?_))))))))))
    refine qaR (fun w9 hb => ?_)
    replace h := h.ext hb
    clear hb
    exact qcG rfl rfl (zKER (zp3 rfl (qb (qy m2 [(1, _), (3, _), (5, _), (6, _), (7, _)] (Nat.lt_succ_self m2) ⟨rfl, rfl, rfl, rfl, rfl, trivial⟩ ⟨_, hF, rfl, h⟩))))
   replace hc7 := zb hc7
   replace hF := bifF hc7 hF
   refine qci hc7 (t := 71) rfl (qi rfl rfl rfl (qi rfl rfl rfl (qi rfl rfl rfl (qi rfl rfl rfl (qi rfl rfl rfl (qi rfl rfl rfl (qi rfl rfl rfl (qi rfl rfl rfl (qi rfl rfl rfl (zd2 rfl ?_))))))))))
   refine qi rfl rfl rfl (qi rfl rfl rfl (qi rfl rfl rfl (qi rfl rfl rfl (qi rfl rfl rfl (qi rfl rfl rfl (qi rfl rfl rfl (qi rfl rfl rfl (qi rfl rfl rfl (zd1 rfl ?_)))))))))
   refine qaR (fun w10 hb => ?_)
   replace h := h.ext hb
   clear hb
   exact qcG rfl rfl (zKER (zp3 rfl (qb (qy m2 [(1, _), (3, _), (5, _), (6, _), (7, _)] (Nat.lt_succ_self m2) ⟨rfl, rfl, rfl, rfl, rfl, trivial⟩ ⟨_, hF, rfl, h⟩))))
  refine qF rfl ?_
  obtain rfl := qj hF; replace hF := hK2
  refine qfP (qB (zp3 rfl (qb ?_)))
  replace h := h.pick [1] rfl
  exact qy m1 [(1, _), (3, _), (5, _)] (Nat.lt_succ_self m1) ⟨rfl, rfl, rfl, trivial⟩ ⟨_, hF, rfl, h⟩
 refine qF rfl ?_
 obtain rfl := qj hF; replace hF := hK1
 refine zSR (zl 0 0 h rfl ?_)
 obtain ⟨r5, hr10, hF⟩ := qd hF
 refine qap r5 h call217 (qlj (h.old ha1) hr10) rfl rfl rfl rfl ?_
 intro w11 S4 p12 k12 h
 refine zp1 rfl (zNSSR (zp1 rfl (zl 1 1 h rfl (qb (zBSR (zp1 rfl ?_))))))
 refine zp1 rfl (qb ?_)
 refine qp rfl hF ?_ ?_ <;> intro hF
 ·refine zSSR (zp1 rfl (qb ?_))
  obtain ⟨o3, hF, hK3⟩ := qd hF
  refine qA ?_
  replace h := h.pick [1] rfl
  refine qW [(1, _), (3, _), (9, _)] ⟨rfl, rfl, rfl, trivial⟩ ?_
  refine qG (fun m e w' => ∃ (i3 : Int), qdF a_0 m i3 = some o3 ∧ e = [(1, .pointer (some ⟨bb1, 0, none⟩)), (3, .int .i64 r2), (9, .int .i64 i3)] ∧ SH w w' [Ch.box bb1 [.string a_0.Name, .int .i64 a_0.Kind, .slice p1 a_0.Pins.length k1, .slice p2 a_0.Arcs.length k2, .slice p3 a_0.Truth.length k3, .int .i64 a_0.Leak, .int .i64 a_0.Energy] 183]) n ⟨_, hF, rfl, h⟩ ?_
  rintro m3 e3 w12 ⟨i3, hF, rfl, h⟩
  rcases m3 with _ | m3
  ·rw [qdF] at hF
   cases hF
  rw [qdF] at hF
  refine zSSR (zp2 rfl (zl 0 4 h rfl (zp2 rfl (qb ?_))))
  refine qp rfl hF ?_ ?_ <;> intro hF
  ·refine zKSBSR (zp1 rfl (zl 0 4 h rfl (zp1 rfl ?_)))
   obtain ⟨y5, hy5, hF⟩ := qd hF
   have he5 := qg hy5
   obtain ⟨b6, o_5, q5, cs6, hp5, hq5, -, hr11, hc14⟩ := s3.at hy5
   obtain rfl := hr11
   refine zxe hp5 hq5 he5 rfl (zc 0 (hc14.below h.below) rfl ?_)
   obtain ⟨r6, hr12, hF⟩ := qd hF
   refine qm r6 h call77 (qal hr12) rfl rfl rfl rfl ?_
   intro w13 h
   refine zp1 rfl (qb ?_)
   refine qp rfl hF ?_ ?_ <;> intro hF
   ·refine zSR (zp1 rfl (qb ?_))
    obtain rfl := qj hF; replace hF := hK3
    exact qx qc h hF ⟨rfl, trivial⟩
   exact zKER (zp3 rfl (qb (qy m3 [(1, _), (3, _), (9, _)] (Nat.lt_succ_self m3) ⟨rfl, rfl, rfl, trivial⟩ ⟨_, hF, rfl, h⟩)))
  refine qF rfl ?_
  obtain rfl := qj hF; replace hF := hK3
  refine zSR (zp3 rfl ?_)
  by_cases hc16 : (r2 == 0) = true
  ·replace hF := bifT hc16 hF
   refine qC hc16 (t := 115) rfl (qa rfl (zp1 rfl (qa rfl (zl 0 4 h rfl (qa rfl (zp1 rfl (qa rfl (zp1 rfl (qa rfl (zl 0 2 h rfl (qa rfl ?_)))))))))))
   refine zp1 rfl (qa rfl (zp1 rfl (qa rfl (zp1 rfl (qa rfl ?_)))))
   obtain ⟨y6, hx1, hF⟩ := qd hF
   obtain ⟨g1, hx1⟩ := qlk hx1
   refine r_v (qqU g1 rfl rfl) rfl ?_
   rw [hx1]
   exact qa rfl (zp3 rfl (qb (qx qc h hF ⟨rfl, trivial⟩)))
  replace hc16 := zb hc16
  replace hF := bifF hc16 hF
  refine qD hc16 (t := 115) rfl (zn5 rfl (zn5 rfl (zp1 rfl ?_)))
  exact zp1 rfl (qb (qx qc h hF ⟨rfl, trivial⟩))
 refine zSR (zp2 rfl (qb ?_))
 refine qp rfl hF ?_ ?_ <;> intro hF
 ·refine qbl ?_
  refine qb3 rfl (by kernel_rfl) ?_
  refine zd3 rfl ?_
  by_cases hc18 : (r2 == 1) = true
  ·replace hF := bifT hc18 hF
   refine qch hc18 (t := 131) rfl (qh rfl (zd1 rfl (qh rfl ?_)))
   obtain ⟨y7, hy6, hF⟩ := qd hF
   have he6 := qg hy6
   obtain ⟨b7, o_6, q6, cs7, hp6, hq6, -, hr13, hc19⟩ := (h.sl 0 rfl).1.at hy6
   obtain rfl := hr13
   refine zdx hp6 hq6 ⟨he6.1, qa8 he6.2.1 (h.sl 0 rfl).2⟩ rfl ?_
   refine qh rfl ?_
   refine zdc 0 hc19 rfl ?_
   refine qh rfl (zd3 rfl ?_)
   by_cases hc20 : (y7 == 0) = true
   ·replace hF := bifT hc20 hF
    refine qch hc20 (t := 137) rfl (qh rfl (zd1 rfl (qh rfl ?_)))
    obtain ⟨y8, hy7, hF⟩ := qd hF
    have he7 := qg hy7
    obtain ⟨b8, o_7, q7, cs8, hp7, hq7, -, hr14, hc21⟩ := (h.sl 0 rfl).1.at hy7
    obtain rfl := hr14
    refine zdx hp7 hq7 ⟨he7.1, qa8 he7.2.1 (h.sl 0 rfl).2⟩ rfl ?_
    refine qh rfl ?_
    refine zdc 0 hc21 rfl ?_
    refine qh rfl (zd1 rfl (qh rfl (zd1 rfl (qh rfl ?_))))
    obtain ⟨y9, hy8, hF⟩ := qd hF
    have he8 := qg hy8
    obtain ⟨b9, o_8, q8, cs9, hp8, hq8, -, hr15, hc22⟩ := (h.sl 0 rfl).1.at hy8
    obtain rfl := hr15
    refine zdx hp8 hq8 ⟨he8.1, qa8 he8.2.1 (h.sl 0 rfl).2⟩ rfl ?_
    refine qh rfl ?_
    refine zdc 0 hc22 rfl ?_
    refine qh rfl (zd1 rfl (qh rfl (zd3 rfl ?_)))
    by_cases hc23 : (!((decide (y8 > 0)) == (decide (y9 > 0)))) = true
    ·replace hF := bifT hc23 hF
     refine qch hc23 (t := 148) rfl (qh rfl (zd1 rfl (qh rfl ?_)))
     refine zdl 1 4 h rfl ?_
     refine qh rfl (zd1 rfl (qh rfl (zd3 rfl ?_)))
     refine qaR (fun w14 hb => ?_)
     replace h := h.ext hb
     clear hb
     exact qx qc h hF ⟨rfl, trivial⟩
    replace hc23 := zb hc23
    replace hF := bifF hc23 hF
    refine qci hc23 (t := 148) rfl (qi rfl rfl rfl (qi rfl rfl rfl (qi rfl rfl rfl (qi rfl rfl rfl (zd2 rfl ?_)))))
    refine qaR (fun w15 hb => ?_)
    replace h := h.ext hb
    clear hb
    exact qx qc h hF ⟨rfl, trivial⟩
   replace hc20 := zb hc20
   replace hF := bifF hc20 hF
   refine qci hc20 (t := 137) rfl (qi rfl rfl rfl (qi rfl rfl rfl (qi rfl rfl rfl (qi rfl rfl rfl (qi rfl rfl rfl (qi rfl rfl rfl (qi rfl rfl rfl (qi rfl rfl rfl (qi rfl rfl rfl (zd2 rfl ?_))))))))))
   refine qi rfl rfl rfl (qi rfl rfl rfl (qi rfl rfl rfl (qi rfl rfl rfl (zd2 rfl ?_))))
   refine qaR (fun w16 hb => ?_)
   replace h := h.ext hb
   clear hb
   exact qx qc h hF ⟨rfl, trivial⟩
  replace hc18 := zb hc18
  replace hF := bifF hc18 hF
  refine qci hc18 (t := 131) rfl (qi rfl rfl rfl (qi rfl rfl rfl (qi rfl rfl rfl (qi rfl rfl rfl (zd2 rfl (qi rfl rfl rfl (qi rfl rfl rfl (qi rfl rfl rfl (qi rfl rfl rfl (qi rfl rfl rfl ?_))))))))))
  refine qi rfl rfl rfl (qi rfl rfl rfl (qi rfl rfl rfl (qi rfl rfl rfl (zd2 rfl (qi rfl rfl rfl (qi rfl rfl rfl (qi rfl rfl rfl (qi rfl rfl rfl (zd2 rfl ?_)))))))))
  refine qaR (fun w17 hb => ?_)
  replace h := h.ext hb
  clear hb
  exact qx qc h hF ⟨rfl, trivial⟩
 refine zSR (zp2 rfl (qb ?_))
 refine qp rfl hF ?_ ?_ <;> intro hF
 ·refine zSR (zp3 rfl ?_)
  by_cases hc25 : (r2 == 1) = true
  ·replace hF := bifT hc25 hF
   refine qC hc25 (t := 158) rfl (qa rfl (zp1 rfl (qa rfl ?_)))
   obtain ⟨y10, hy9, hF⟩ := qd hF
   have he9 := qg hy9
   obtain ⟨b10, o_9, q9, cs10, hp9, hq9, -, hr16, hc26⟩ := (h.sl 0 rfl).1.at hy9
   obtain rfl := hr16
   refine zx hp9 hq9 ⟨he9.1, qa8 he9.2.1 (h.sl 0 rfl).2⟩ rfl (qa rfl (zc 0 hc26 rfl (qa rfl (zp3 rfl ?_))))
   by_cases hc27 : (decide (y10 > 0)) = true
   ·replace hF := bifT hc27 hF
    refine qC hc27 (t := 164) rfl (qa rfl (zp1 rfl (qa rfl ?_)))
    obtain ⟨y11, hy10, hF⟩ := qd hF
    have he10 := qg hy10
    obtain ⟨b11, o_10, q10, cs11, hp10, hq10, -, hr17, hc28⟩ := (h.sl 0 rfl).1.at hy10
    obtain rfl := hr17
    refine zx hp10 hq10 ⟨he10.1, qa8 he10.2.1 (h.sl 0 rfl).2⟩ rfl (qa rfl (zc 0 hc28 rfl (qa rfl (zp3 rfl ?_))))
    by_cases hc29 : (decide (y11 > 0)) = true
    ·replace hF := bifT hc29 hF
     refine qC hc29 (t := 170) rfl (qa rfl (zp1 rfl (qa rfl ?_)))
     obtain ⟨y12, hy11, hF⟩ := qd hF
     have he11 := qg hy11
     obtain ⟨b12, o_11, q11, cs12, hp11, hq11, -, hr18, hc30⟩ := (h.sl 0 rfl).1.at hy11
     obtain rfl := hr18
     refine zx hp11 hq11 ⟨he11.1, qa8 he11.2.1 (h.sl 0 rfl).2⟩ rfl (qa rfl (zc 0 hc30 rfl (qa rfl (zp3 rfl ?_))))
     by_cases hc31 : (y12 == 0) = true
     ·replace hF := bifT hc31 hF
      refine qC hc31 (t := 176) rfl (qa rfl (zp1 rfl (qa rfl (zl 1 4 h rfl (qa rfl (zp1 rfl (qa rfl (zp3 rfl (qb ?_)))))))))
      exact qx qc h hF ⟨rfl, trivial⟩
     replace hc31 := zb hc31
     replace hF := bifF hc31 hF
     exact qD hc31 (t := 176) rfl (zn4 rfl (zp2 rfl (qb (qx qc h hF ⟨rfl, trivial⟩))))
    replace hc29 := zb hc29
    replace hF := bifF hc29 hF
    refine qD hc29 (t := 170) rfl (zn4 rfl (zp2 rfl (zn4 rfl (zp1 rfl ?_))))
    exact zp1 rfl (qb (qx qc h hF ⟨rfl, trivial⟩))
   replace hc27 := zb hc27
   replace hF := bifF hc27 hF
   refine qD hc27 (t := 164) rfl (zn4 rfl (zp2 rfl (zn4 rfl (zp1 rfl ?_))))
   exact zp1 rfl (zn4 rfl (zp2 rfl (qb (qx qc h hF ⟨rfl, trivial⟩))))
  replace hc25 := zb hc25
  replace hF := bifF hc25 hF
  refine qD hc25 (t := 158) rfl (zn4 rfl (zp2 rfl (zn4 rfl (zp1 rfl ?_))))
  refine zp1 rfl (zn4 rfl (zp2 rfl (zn4 rfl (zp1 rfl ?_))))
  exact zp1 rfl (qb (qx qc h hF ⟨rfl, trivial⟩))
 exact zKE (zSR (zp1 rfl (qb (qx qc h hF ⟨rfl, trivial⟩))))

def qcv (l : qw) (i1 : Int) : Nat → Int → Option (Flow Bool Int)
 | 0, _ => none
 | n + 1, i2 =>
  bif decide (i2 < i1) then
   (idx l.Cells i2).bind fun y2 =>
   (idx l.Cells i1).bind fun y3 =>
   bif (y2.Name.toList == y3.Name.toList) then
    some (.ret false)
   else
    qcv l i1 n (W64 (i2 + 1))
  else
   some (.nxt i2)

def qcw (l : qw) : Nat → Int → Option (Flow Bool Int)
 | 0, _ => none
 | n + 1, i1 =>
  bif decide (i1 < (l.Cells.length : Int)) then
   (idx l.Cells i1).bind fun y1 =>
   (qh0 n y1).bind fun r1 =>
   bif (!r1) then
    some (.ret false)
   else
    (qcv l i1 n 0).bind fun o => match o with
    | .ret r => some (.ret r)
    | .nxt _ =>
     qcw l n (W64 (i1 + 1))
  else
   some (.nxt i1)

def qf9 (n : Nat) (l : qw) : Option Bool :=
 (qcw l n 0).bind fun o => match o with
 | .ret r => some r
 | .nxt _ =>
  some (decide ((l.Cells.length : Int) ≤ 8))

theorem qkZ {n : Nat} {w : World} {l : qw} {cs1 : List Value} (ha1 : GoT.R w (old w) l cs1) {r : Bool} (hF : qf9 n l = some r) : RetV Tryz.prog 176 [GoT.v qw cs1] w r := by
 obtain ⟨p1, k1, rfl, s1⟩ := qbB ha1
 refine qf Tryz.func176 rfl (m := 41) rfl rfl (fun h => ?_)
 rw [qf9] at hF
 refine zSR (qP h rfl rfl ?_)
 intro w1 bb1 h
 refine zp1 rfl (zNSSR (zp1 rfl (qb ?_)))
 obtain ⟨o1, hF, hK1⟩ := qd hF
 refine qA (qW [(1, _), (3, _)] ⟨rfl, rfl, trivial⟩ ?_)
 refine qG (fun m e w' => ∃ (i1 : Int), qcw l m i1 = some o1 ∧ e = [(1, .pointer (some ⟨bb1, 0, none⟩)), (3, .int .i64 i1)] ∧ SH w w' [Ch.box bb1 [.slice p1 l.Cells.length k1] 43]) n ⟨_, hF, rfl, h⟩ ?_
 rintro m1 e1 w2 ⟨i1, hF, rfl, h⟩
 rcases m1 with _ | m1
 ·rw [qcw] at hF
  cases hF
 rw [qcw] at hF
 refine zSSR (zp2 rfl (zl 0 0 h rfl (zp2 rfl (qb ?_))))
 refine qp rfl hF ?_ ?_ <;> intro hF
 ·refine zKSB (zSSR (zp1 rfl (zl 0 0 h rfl (zp1 rfl ?_))))
  obtain ⟨y1, hy1, hF⟩ := qd hF
  have he1 := qg hy1
  obtain ⟨b1, o_1, q1, cs2, hp1, hq1, -, hr1, hc2⟩ := s1.at hy1
  obtain ⟨p2, k2, p3, k3, p4, k4, rfl, s2, s3, s4⟩ := qaa hr1
  refine zxe hp1 hq1 he1 rfl (zc 0 (hc2.below h.below) rfl ?_)
  obtain ⟨r1, hr2, hF⟩ := qd hF
  refine qm r1 h call202 (qmJ (qgW y1 (h.oldS s2) (h.oldS s3) (h.oldS s4)) hr2) rfl rfl rfl rfl ?_
  intro w3 h
  refine zp1 rfl (qb ?_)
  refine qp rfl hF ?_ ?_ <;> intro hF
  ·refine zSR (zp1 rfl (qb ?_))
   obtain rfl := qj hF; replace hF := hK1
   exact qx qc h hF ⟨rfl, trivial⟩
  refine zKSR (zp1 rfl (qb ?_))
  obtain ⟨o2, hF, hK2⟩ := qd hF
  refine qA (qW [(1, _), (3, _), (4, _)] ⟨rfl, rfl, rfl, trivial⟩ ?_)
  refine qG (fun m e w' => ∃ (i2 : Int), qcv l i1 m i2 = some o2 ∧ e = [(1, .pointer (some ⟨bb1, 0, none⟩)), (3, .int .i64 i1), (4, .int .i64 i2)] ∧ SH w w' [Ch.box bb1 [.slice p1 l.Cells.length k1] 43]) m1 ⟨_, hF, rfl, h⟩ ?_
  rintro m2 e2 w4 ⟨i2, hF, rfl, h⟩
  rcases m2 with _ | m2
  ·rw [qcv] at hF
   cases hF
  rw [qcv] at hF
  refine zSSR (zp3 rfl (qb ?_))
  refine qp rfl hF ?_ ?_ <;> intro hF
  ·refine zKSB (qbl ?_)
   refine qb3 rfl (by kernel_rfl) ?_
   refine zd1 rfl ?_
   refine zdl 0 0 h rfl ?_
   refine zd1 rfl ?_
   obtain ⟨y2, hy2, hF⟩ := qd hF
   have he2 := qg hy2
   obtain ⟨b2, o_2, q2, cs3, hp2, hq2, -, hr3, hc5⟩ := s1.at hy2
   obtain ⟨p5, k5, p6, k6, p7, k7, rfl, s5, s6, s7⟩ := qaa hr3
   refine zdxe hp2 hq2 he2 rfl ?_
   refine zd1 rfl ?_
   refine zdc 0 (hc5.below h.below) rfl ?_
   refine zd1 rfl ?_
   refine zdl 0 0 h rfl ?_
   refine zd1 rfl ?_
   obtain ⟨y3, hy3, hF⟩ := qd hF
   have he3 := qg hy3
   obtain ⟨b3, o_3, q3, cs4, hp3, hq3, -, hr4, hc6⟩ := s1.at hy3
   obtain ⟨p8, k8, p9, k9, p10, k10, rfl, s8, s9, s10⟩ := qaa hr4
   refine zdxe hp3 hq3 he3 rfl ?_
   refine zd1 rfl ?_
   refine zdc 0 (hc6.below h.below) rfl ?_
   refine zd1 rfl ?_
   refine qaR (fun w5 hb => ?_)
   replace h := h.ext hb
   clear hb
   refine qp rfl hF ?_ ?_ <;> intro hF
   ·refine zSR (zp1 rfl (qb ?_))
    obtain rfl := qj hF; replace hF := hK2
    obtain rfl := qj hF; replace hF := hK1
    exact qx qc h hF ⟨rfl, trivial⟩
   exact zKER (zp3 rfl (qb (qy m2 [(1, _), (3, _), (4, _)] (Nat.lt_succ_self m2) ⟨rfl, rfl, rfl, trivial⟩ ⟨_, hF, rfl, h⟩)))
  refine qF rfl ?_
  obtain rfl := qj hF; replace hF := hK2
  exact qfP (qB (zp3 rfl (qb (qy m1 [(1, _), (3, _)] (Nat.lt_succ_self m1) ⟨rfl, rfl, trivial⟩ ⟨_, hF, rfl, h⟩))))
 refine qF rfl ?_
 obtain rfl := qj hF; replace hF := hK1
 exact zSR (zp1 rfl (zl 0 0 h rfl (zp3 rfl (qb (qx qc h hF ⟨rfl, trivial⟩)))))

def qcR (a_1 : ql) (y1 : qr) : Nat → Int → Option (Flow Bool Int)
 | 0, _ => none
 | n + 1, i2 =>
  bif decide (i2 < (y1.Nets.length : Int)) then
   (idx y1.Nets i2).bind fun y2 =>
   (qaA n y2 0 (W64 ((a_1.Nets.length : Int) - 1))).bind fun r1 =>
   bif (!r1) then
    some (.ret false)
   else
    qcR a_1 y1 n (W64 (i2 + 1))
  else
   some (.nxt i2)

def qcH (a_1 : ql) : Nat → Int → Option (Flow Bool Int)
 | 0, _ => none
 | n + 1, i3 =>
  bif decide (i3 < (a_1.Ports.length : Int)) then
   (idx a_1.Ports i3).bind fun y4 =>
   (qaA n y4.Dir 1 2).bind fun r3 =>
   bif (!r3) then
    some (.ret false)
   else
    (idx a_1.Ports i3).bind fun y5 =>
    (qaA n y5.Net 0 (W64 ((a_1.Nets.length : Int) - 1))).bind fun r4 =>
    bif (!r4) then
     some (.ret false)
    else
     qcH a_1 n (W64 (i3 + 1))
  else
   some (.nxt i3)

def qcQ (a_0 : qw) (a_1 : ql) : Nat → Int → Option (Flow Bool Int)
 | 0, _ => none
 | n + 1, i1 =>
  bif decide (i1 < (a_1.Instances.length : Int)) then
   (idx a_1.Instances i1).bind fun y1 =>
   (
    (qaA n y1.Cell 0 (W64 ((a_0.Cells.length : Int) - 1))).bind fun r2 =>
    bif (!r2) then
     some true
    else
     (idx a_0.Cells y1.Cell).bind fun y3 =>
     some ((y1.Nets.length : Int) != (y3.Pins.length : Int))).bind fun b2 =>
   bif b2 then
    some (.ret false)
   else
    (qcR a_1 y1 n 0).bind fun o => match o with
    | .ret r => some (.ret r)
    | .nxt _ =>
     qcQ a_0 a_1 n (W64 (i1 + 1))
  else
   some (.nxt i1)

def qgo (n : Nat) (a_0 : qw) (a_1 : ql) : Option Bool :=
 (qcQ a_0 a_1 n 0).bind fun o => match o with
 | .ret r => some r
 | .nxt _ =>
  (qcH a_1 n 0).bind fun o => match o with
  | .ret r => some r
  | .nxt _ =>
   some true

theorem qlx {n : Nat} {w : World} {a_0 : qw} {a_1 : ql} {cs1 : List Value} (ha1 : GoT.R w (old w) a_0 cs1) {cs2 : List Value} (ha2 : GoT.R w (old w) a_1 cs2) {r : Bool} (hF : qgo n a_0 a_1 = some r) : RetV Tryz.prog 177 [GoT.v qw cs1, GoT.v ql cs2] w r := by
 obtain ⟨p1, k1, rfl, s1⟩ := qbB ha1
 obtain ⟨p2, k2, p3, k3, p4, k4, rfl, s2, s3, s4⟩ := qaz ha2
 refine qf Tryz.func177 rfl (m := 90) rfl rfl (fun h => ?_)
 rw [qgo] at hF
 refine zSR (qP h rfl rfl ?_)
 intro w1 bb1 h
 refine qP h rfl rfl ?_
 intro w2 bb2 h
 refine zp1 rfl (zNSR (zp1 rfl (zl 0 1 h rfl (zp2 rfl (zNSSR ?_)))))
 refine zp1 rfl (qb ?_)
 obtain ⟨o1, hF, hK1⟩ := qd hF
 refine qA (qW [(2, _), (3, _), (5, _), (6, _)] ⟨rfl, rfl, rfl, rfl, trivial⟩ ?_)
 refine qG (fun m e w' => ∃ (i1 : Int), qcQ a_0 a_1 m i1 = some o1 ∧ e = [(2, .pointer (some ⟨bb1, 0, none⟩)), (3, .pointer (some ⟨bb2, 0, none⟩)), (5, .int .i64 (a_1.Nets.length : Int)), (6, .int .i64 i1)] ∧ SH w w' [Ch.box bb2 [.slice p2 a_1.Instances.length k2, .slice p3 a_1.Nets.length k3, .slice p4 a_1.Ports.length k4] 47, Ch.box bb1 [.slice p1 a_0.Cells.length k1] 43]) n ⟨_, hF, rfl, h⟩ ?_
 rintro m1 e1 w3 ⟨i1, hF, rfl, h⟩
 rcases m1 with _ | m1
 ·rw [qcQ] at hF
  cases hF
 rw [qcQ] at hF
 refine zSSR (zp2 rfl (zl 0 0 h rfl (zp2 rfl (qb ?_))))
 refine qp rfl hF ?_ ?_ <;> intro hF
 ·refine zKSBSR (zp1 rfl (zl 0 0 h rfl (zp1 rfl ?_)))
  obtain ⟨y1, hy1, hF⟩ := qd hF
  have he1 := qg hy1
  obtain ⟨b1, o_1, q1, cs3, hp1, hq1, -, hr1, hc2⟩ := s2.at hy1
  obtain ⟨p5, k5, rfl, s5⟩ := qab hr1
  refine zxe hp1 hq1 he1 rfl (zc 0 (hc2.below h.below) rfl (qT qc h rfl rfl rfl ?_))
  intro w4 bb3 h
  refine zs 0 h rfl ?_
  intro w5 h
  refine zNSS ?_
  obtain ⟨KF1, hKF1, o3, hF, hK3⟩ := bindE hF
  refine qdR (fun e w' => ∃ (b2 : Bool), KF1 b2 = some o1 ∧ e = [(2, .pointer (some ⟨bb1, 0, none⟩)), (3, .pointer (some ⟨bb2, 0, none⟩)), (5, .int .i64 (a_1.Nets.length : Int)), (6, .int .i64 i1), (7, .pointer (some ⟨bb3, 0, none⟩)), (46, .bool b2)] ∧ SH w w' [Ch.box bb3 [.string y1.Name, .int .i64 y1.Cell, .slice p5 y1.Nets.length k5] 185, Ch.box bb2 [.slice p2 a_1.Instances.length k2, .slice p3 a_1.Nets.length k3, .slice p4 a_1.Ports.length k4] 47, Ch.box bb1 [.slice p1 a_0.Cells.length k1] 43]) ?_ ?_
  ·refine qb3 rfl (by kernel_rfl) ?_
   refine zd1 rfl ?_
   refine zdl 0 1 h rfl ?_
   refine zd1 rfl ?_
   refine zdl 2 0 h rfl ?_
   refine zd2 rfl ?_
   obtain ⟨r2, hr4, hF⟩ := qd hF
   refine qb7 r2 (vsB _) call77 (fun _ hb => qal  hr4) rfl rfl rfl rfl ?_
   refine zd2 rfl ?_
   by_cases hc7 : (!r2) = true
   ·replace hF := bifT hc7 hF
    refine qch hc7 (t := 33) rfl (qi rfl rfl rfl (qi rfl rfl rfl (qi rfl rfl rfl (qi rfl rfl rfl (qi rfl rfl rfl (qi rfl rfl rfl (qi rfl rfl rfl (qi rfl rfl rfl (qi rfl rfl rfl (qi rfl rfl rfl (qi rfl rfl rfl ?_)))))))))))
    refine qi rfl rfl rfl (zd1 rfl ?_)
    refine qaR (fun w8 hb => ?_)
    replace h := h.ext hb
    clear hb
    obtain rfl := qj hF
    exact qu [(2, _), (3, _), (5, _), (6, _), (7, _), (46, _)] ⟨rfl, rfl, rfl, rfl, rfl, rfl, trivial⟩ ⟨_, hK3, rfl, h⟩
   replace hc7 := zb hc7
   replace hF := bifF hc7 hF
   refine qci hc7 (t := 33) rfl (qh rfl (zd1 rfl (qh rfl ?_)))
   refine zdl 0 2 h rfl ?_
   refine qh rfl (zd1 rfl (qh rfl (zd1 rfl (qh rfl ?_))))
   refine zdl 2 0 h rfl ?_
   refine qh rfl (zd1 rfl (qh rfl ?_))
   refine zdl 0 1 h rfl ?_
   refine qh rfl ?_
   obtain ⟨y3, hy3, hF⟩ := qd hF
   have he3 := qg hy3
   obtain ⟨b4, o_3, q3, cs5, hp3, hq3, -, hr5, hc8⟩ := s1.at hy3
   obtain ⟨p6, k6, p7, k7, p8, k8, rfl, s6, s7, s8⟩ := qaa hr5
   refine zdxe hp3 hq3 he3 rfl ?_
   refine qh rfl (zd1 rfl (qh rfl ?_))
   refine zdc 2 (hc8.below h.below) rfl ?_
   refine qh rfl (zd1 rfl (qh rfl (zd2 rfl ?_)))
   refine qaR (fun w9 hb => ?_)
   replace h := h.ext hb
   clear hb
   obtain rfl := qj hF
   exact qu [(2, _), (3, _), (5, _), (6, _), (7, _), (46, _)] ⟨rfl, rfl, rfl, rfl, rfl, rfl, trivial⟩ ⟨_, hK3, rfl, h⟩
  rintro e3 w10 ⟨b2, hF, rfl, h⟩
  subst hKF1
  refine qp rfl hF ?_ ?_ <;> intro hF
  ·refine zSR (zp1 rfl (qb ?_))
   obtain rfl := qj hF; replace hF := hK1
   exact qx qc h hF ⟨rfl, trivial⟩
  refine zKSR (zp1 rfl (qb ?_))
  obtain ⟨o2, hF, hK2⟩ := qd hF
  refine qA (qW [(2, _), (3, _), (5, _), (6, _), (7, _), (8, _)] ⟨rfl, rfl, rfl, rfl, rfl, rfl, trivial⟩ ?_)
  refine qG (fun m e w' => ∃ (i2 : Int), qcR a_1 y1 m i2 = some o2 ∧ e = [(2, .pointer (some ⟨bb1, 0, none⟩)), (3, .pointer (some ⟨bb2, 0, none⟩)), (5, .int .i64 (a_1.Nets.length : Int)), (6, .int .i64 i1), (7, .pointer (some ⟨bb3, 0, none⟩)), (8, .int .i64 i2)] ∧ SH w w' [Ch.box bb3 [.string y1.Name, .int .i64 y1.Cell, .slice p5 y1.Nets.length k5] 185, Ch.box bb2 [.slice p2 a_1.Instances.length k2, .slice p3 a_1.Nets.length k3, .slice p4 a_1.Ports.length k4] 47, Ch.box bb1 [.slice p1 a_0.Cells.length k1] 43]) m1 ⟨_, hF, rfl, h⟩ ?_
  rintro m2 e2 w6 ⟨i2, hF, rfl, h⟩
  rcases m2 with _ | m2
  ·rw [qcR] at hF
   cases hF
  rw [qcR] at hF
  refine zSSR (zp2 rfl (zl 0 2 h rfl (zp2 rfl (qb ?_))))
  refine qp rfl hF ?_ ?_ <;> intro hF
  ·refine zKSBSR (zp1 rfl (zl 0 2 h rfl (zp1 rfl ?_)))
   obtain ⟨y2, hy2, hF⟩ := qd hF
   have he2 := qg hy2
   obtain ⟨b3, o_2, q2, cs4, hp2, hq2, -, hr2, hc5⟩ := s5.at hy2
   obtain rfl := hr2
   refine zxe hp2 hq2 he2 rfl (zc 0 (hc5.below h.below) rfl (zp2 rfl ?_))
   obtain ⟨r1, hr3, hF⟩ := qd hF
   refine qm r1 h call77 (qal hr3) rfl rfl rfl rfl ?_
   intro w7 h
   refine zp1 rfl (qb ?_)
   refine qp rfl hF ?_ ?_ <;> intro hF
   ·refine zSR (zp1 rfl (qb ?_))
    obtain rfl := qj hF; replace hF := hK2
    obtain rfl := qj hF; replace hF := hK1
    exact qx qc h hF ⟨rfl, trivial⟩
   exact zKER (zp3 rfl (qb (qy m2 [(2, _), (3, _), (5, _), (6, _), (7, _), (8, _)] (Nat.lt_succ_self m2) ⟨rfl, rfl, rfl, rfl, rfl, rfl, trivial⟩ ⟨_, hF, rfl, h⟩)))
  refine qF rfl ?_
  obtain rfl := qj hF; replace hF := hK2
  refine qfP (qB (zp3 rfl (qb ?_)))
  replace h := h.pick [1, 2] rfl
  exact qy m1 [(2, _), (3, _), (5, _), (6, _)] (Nat.lt_succ_self m1) ⟨rfl, rfl, rfl, rfl, trivial⟩ ⟨_, hF, rfl, h⟩
 refine qF rfl ?_
 obtain rfl := qj hF; replace hF := hK1
 refine zSSR (zp1 rfl (qb ?_))
 obtain ⟨o4, hF, hK4⟩ := qd hF
 refine qA ?_
 replace h := h.pick [0] rfl
 refine qW [(3, _), (5, _), (9, _)] ⟨rfl, rfl, rfl, trivial⟩ ?_
 refine qG (fun m e w' => ∃ (i3 : Int), qcH a_1 m i3 = some o4 ∧ e = [(3, .pointer (some ⟨bb2, 0, none⟩)), (5, .int .i64 (a_1.Nets.length : Int)), (9, .int .i64 i3)] ∧ SH w w' [Ch.box bb2 [.slice p2 a_1.Instances.length k2, .slice p3 a_1.Nets.length k3, .slice p4 a_1.Ports.length k4] 47]) n ⟨_, hF, rfl, h⟩ ?_
 rintro m3 e4 w11 ⟨i3, hF, rfl, h⟩
 rcases m3 with _ | m3
 ·rw [qcH] at hF
  cases hF
 rw [qcH] at hF
 refine zSSR (zp2 rfl (zl 0 2 h rfl (zp2 rfl (qb ?_))))
 refine qp rfl hF ?_ ?_ <;> intro hF
 ·refine zKSBSR (zp1 rfl (zl 0 2 h rfl (zp1 rfl ?_)))
  obtain ⟨y4, hy4, hF⟩ := qd hF
  have he4 := qg hy4
  obtain ⟨b5, o_4, q4, cs6, hp4, hq4, -, hr6, hc10⟩ := s4.at hy4
  obtain rfl := qbz hr6
  refine zxe hp4 hq4 he4 rfl (zp1 rfl (zc 1 (hc10.below h.below) rfl ?_))
  obtain ⟨r3, hr7, hF⟩ := qd hF
  refine qm r3 h call77 (qal hr7) rfl rfl rfl rfl ?_
  intro w12 h
  refine zp2 rfl ?_
  by_cases hc11 : (!r3) = true
  ·replace hF := bifT hc11 hF
   refine qC hc11 (t := 78) rfl (zn5 rfl (zn5 rfl (zp1 rfl ?_)))
   refine qb (qez rfl rfl (zSR (zp1 rfl (qb ?_))))
   obtain rfl := qj hF; replace hF := hK4
   exact qx qc h hF ⟨rfl, trivial⟩
  replace hc11 := zb hc11
  replace hF := bifF hc11 hF
  refine qD hc11 (t := 78) rfl (qa rfl (zp1 rfl (qa rfl (zl 0 2 h rfl (qa rfl (zp1 rfl (qa rfl ?_)))))))
  obtain ⟨y5, hy5, hF⟩ := qd hF
  have he5 := qg hy5
  obtain ⟨b6, o_5, q5, cs7, hp5, hq5, -, hr8, hc12⟩ := s4.at hy5
  obtain rfl := qbz hr8
  refine zxe hp5 hq5 he5 rfl (qa rfl (zp1 rfl (qa rfl (zc 2 (hc12.below h.below) rfl (qa rfl (zp1 rfl (qa rfl (zp1 rfl (qa rfl ?_)))))))))
  obtain ⟨r4, hr9, hF⟩ := qd hF
  refine qm r4 h call77 (qal hr9) rfl rfl rfl rfl ?_
  intro w13 h
  refine qa rfl (zp2 rfl (qb ?_))
  refine qp rfl hF ?_ ?_ <;> intro hF
  ·refine zSR (zp1 rfl (qb ?_))
   obtain rfl := qj hF; replace hF := hK4
   exact qx qc h hF ⟨rfl, trivial⟩
  exact zKER (zp3 rfl (qb (qy m3 [(3, _), (5, _), (9, _)] (Nat.lt_succ_self m3) ⟨rfl, rfl, rfl, trivial⟩ ⟨_, hF, rfl, h⟩)))
 refine qF rfl ?_
 obtain rfl := qj hF; replace hF := hK4
 exact zSR (zp1 rfl (qb (qx qc h hF ⟨rfl, trivial⟩)))

def qcO (list : (List ByteArray)) (i1 : Int) : Nat → Int → Option (Flow Bool Int)
 | 0, _ => none
 | n + 1, i2 =>
  bif decide (i2 < i1) then
   (idx list i2).bind fun y2 =>
   (idx list i1).bind fun y3 =>
   bif (y2.toList == y3.toList) then
    some (.ret false)
   else
    qcO list i1 n (W64 (i2 + 1))
  else
   some (.nxt i2)

def qcJ (list : (List ByteArray)) : Nat → Int → Option (Flow Bool Int)
 | 0, _ => none
 | n + 1, i1 =>
  bif decide (i1 < (list.length : Int)) then
   (idx list i1).bind fun y1 =>
   (qfl n y1).bind fun r1 =>
   bif (!r1) then
    some (.ret false)
   else
    (qcO list i1 n 0).bind fun o => match o with
    | .ret r => some (.ret r)
    | .nxt _ =>
     qcJ list n (W64 (i1 + 1))
  else
   some (.nxt i1)

def qe3 (n : Nat) (list : (List ByteArray)) : Option Bool :=
 (qcJ list n 0).bind fun o => match o with
 | .ret r => some r
 | .nxt _ =>
  some true

theorem qhP {n : Nat} {w : World} {list : (List ByteArray)} {cs1 : List Value} (ha1 : GoT.R w (old w) list cs1) {r : Bool} (hF : qe3 n list = some r) : RetV Tryz.prog 178 [GoT.v (List ByteArray) cs1] w r := by
 obtain ⟨p1, k1, rfl, s1⟩ := ha1
 refine qf Tryz.func178 rfl (m := 31) rfl rfl (fun h => ?_)
 rw [qe3] at hF
 refine zSR (zp1 rfl (zNSSR (zp1 rfl (qb ?_))))
 obtain ⟨o1, hF, hK1⟩ := qd hF
 refine qA (qW [(0, _), (3, _)] ⟨rfl, rfl, trivial⟩ ?_)
 refine qG (fun m e w' => ∃ (i1 : Int), qcJ list m i1 = some o1 ∧ e = [(0, .slice p1 list.length k1), (3, .int .i64 i1)] ∧ SH w w' []) n ⟨_, hF, rfl, h⟩ ?_
 rintro m1 e1 w1 ⟨i1, hF, rfl, h⟩
 rcases m1 with _ | m1
 ·rw [qcJ] at hF
  cases hF
 rw [qcJ] at hF
 refine zSSR (zp4 rfl (qb ?_))
 refine qp rfl hF ?_ ?_ <;> intro hF
 ·refine zKSB (zSSR (zp2 rfl ?_))
  obtain ⟨y1, hy1, hF⟩ := qd hF
  have he1 := qg hy1
  obtain ⟨b1, o_1, q1, cs2, hp1, hq1, -, hr1, hc2⟩ := s1.at hy1
  obtain rfl := hr1
  refine zxe hp1 hq1 he1 rfl (zc 0 (hc2.below h.below) rfl ?_)
  obtain ⟨r1, hr2, hF⟩ := qd hF
  refine qm r1 h call203 (qh9 hr2) rfl rfl rfl rfl ?_
  intro w2 h
  refine zp1 rfl (qb ?_)
  refine qp rfl hF ?_ ?_ <;> intro hF
  ·refine zSR (zp1 rfl (qb ?_))
   obtain rfl := qj hF; replace hF := hK1
   exact qx qc h hF ⟨rfl, trivial⟩
  refine zKSR (zp1 rfl (qb ?_))
  obtain ⟨o2, hF, hK2⟩ := qd hF
  refine qA (qW [(0, _), (3, _), (4, _)] ⟨rfl, rfl, rfl, trivial⟩ ?_)
  refine qG (fun m e w' => ∃ (i2 : Int), qcO list i1 m i2 = some o2 ∧ e = [(0, .slice p1 list.length k1), (3, .int .i64 i1), (4, .int .i64 i2)] ∧ SH w w' []) m1 ⟨_, hF, rfl, h⟩ ?_
  rintro m2 e2 w3 ⟨i2, hF, rfl, h⟩
  rcases m2 with _ | m2
  ·rw [qcO] at hF
   cases hF
  rw [qcO] at hF
  refine zSSR (zp3 rfl (qb ?_))
  refine qp rfl hF ?_ ?_ <;> intro hF
  ·refine zKSB (qbl ?_)
   refine qb3 rfl (by kernel_rfl) ?_
   refine zd2 rfl ?_
   obtain ⟨y2, hy2, hF⟩ := qd hF
   have he2 := qg hy2
   obtain ⟨b2, o_2, q2, cs3, hp2, hq2, -, hr3, hc5⟩ := s1.at hy2
   obtain rfl := hr3
   refine zdxe hp2 hq2 he2 rfl ?_
   refine zdc 0 (hc5.below h.below) rfl ?_
   refine zd2 rfl ?_
   obtain ⟨y3, hy3, hF⟩ := qd hF
   have he3 := qg hy3
   obtain ⟨b3, o_3, q3, cs4, hp3, hq3, -, hr4, hc6⟩ := s1.at hy3
   obtain rfl := hr4
   refine zdxe hp3 hq3 he3 rfl ?_
   refine zdc 0 (hc6.below h.below) rfl ?_
   refine zd1 rfl ?_
   refine qaR (fun w4 hb => ?_)
   replace h := h.ext hb
   clear hb
   refine qp rfl hF ?_ ?_ <;> intro hF
   ·refine zSR (zp1 rfl (qb ?_))
    obtain rfl := qj hF; replace hF := hK2
    obtain rfl := qj hF; replace hF := hK1
    exact qx qc h hF ⟨rfl, trivial⟩
   exact zKER (zp3 rfl (qb (qy m2 [(0, _), (3, _), (4, _)] (Nat.lt_succ_self m2) ⟨rfl, rfl, rfl, trivial⟩ ⟨_, hF, rfl, h⟩)))
  refine qF rfl ?_
  obtain rfl := qj hF; replace hF := hK2
  exact qfP (qB (zp3 rfl (qb (qy m1 [(0, _), (3, _)] (Nat.lt_succ_self m1) ⟨rfl, rfl, trivial⟩ ⟨_, hF, rfl, h⟩))))
 refine qF rfl ?_
 obtain rfl := qj hF; replace hF := hK1
 exact zSR (zp1 rfl (qb (qx qc h hF ⟨rfl, trivial⟩)))

def qcI (x5 : (List Int)) (x7 : (List Int)) : Nat → Int → Option (Flow Bool Int)
 | 0, _ => none
 | n + 1, i5 =>
  bif decide (i5 < (x5.length : Int)) then
   (idx x7 i5).bind fun y11 =>
   bif (y11 != 1) then
    some (.ret false)
   else
    qcI x5 x7 n (W64 (i5 + 1))
  else
   some (.nxt i5)

def qbN (a_1 : ql) : Nat → (List Int) → Int → Option ((List Int) × Int)
 | 0, _, _ => none
 | n + 1, x7, i4 =>
  bif decide (i4 < (a_1.Ports.length : Int)) then
   (idx a_1.Ports i4).bind fun y7 =>
   bif (y7.Dir == 1) then
    (idx a_1.Ports i4).bind fun y8 =>
    (idx x7 y8.Net).bind fun y9 =>
    (idx x7 y8.Net).bind fun _ =>
    qbN a_1 n (setS x7 y8.Net (W64 (y9 + 1))) (W64 (i4 + 1))
   else
    qbN a_1 n x7 (W64 (i4 + 1))
  else
   some (x7, i4)

def qce (a_1 : ql) : Nat → (List Int) → Int → Option ((List Int) × Int)
 | 0, _, _ => none
 | n + 1, x6, i3 =>
  bif decide (i3 < (a_1.Instances.length : Int)) then
   (idx a_1.Instances i3).bind fun y3 =>
   (idx y3.Nets (W64 ((y3.Nets.length : Int) - 1))).bind fun y4 =>
   (idx x6 y4).bind fun y5 =>
   (idx x6 y4).bind fun _ =>
   qce a_1 n (setS x6 y4 (W64 (y5 + 1))) (W64 (i3 + 1))
  else
   some (x6, i3)

def qcn (a_1 : ql) : Nat → (List ByteArray) → Int → Option ((List ByteArray) × Int)
 | 0, _, _ => none
 | n + 1, x3, i2 =>
  bif decide (i2 < (a_1.Ports.length : Int)) then
   (idx a_1.Ports i2).bind fun y2 =>
   (appS x3 ([y2.Name] : List ByteArray)).bind fun x4 =>
   qcn a_1 n x4 (W64 (i2 + 1))
  else
   some (x3, i2)

def qcg (a_1 : ql) : Nat → (List ByteArray) → Int → Option ((List ByteArray) × Int)
 | 0, _, _ => none
 | n + 1, x1, i1 =>
  bif decide (i1 < (a_1.Instances.length : Int)) then
   (idx a_1.Instances i1).bind fun y1 =>
   (appS x1 ([y1.Name] : List ByteArray)).bind fun x2 =>
   qcg a_1 n x2 (W64 (i1 + 1))
  else
   some (x1, i1)

def qfH (n : Nat) (a_0 : qw) (a_1 : ql) : Option Bool :=
 (
  (qf9 n a_0).bind fun r4 =>
  bif (!r4) then
   some true
  else
   bif decide ((a_1.Instances.length : Int) > 14) then
    some true
   else
    bif decide ((a_1.Nets.length : Int) > 30) then
     some true
    else
     bif decide ((a_1.Ports.length : Int) > 8) then
      some true
     else
      (qgo n a_0 a_1).bind fun r5 =>
      some (!r5)).bind fun b1 =>
 bif b1 then
  some false
 else
  (qcg a_1 n ([] : List ByteArray) 0).bind fun o => match o with
  | (x1, _) =>
   (qcn a_1 n ([] : List ByteArray) 0).bind fun o => match o with
   | (x3, _) =>
    (
     (qe3 n x1).bind fun r1 =>
     bif (!r1) then
      some true
     else
      (qe3 n x3).bind fun r2 =>
      bif (!r2) then
       some true
      else
       (qe3 n a_1.Nets).bind fun r3 =>
       some (!r3)).bind fun b4 =>
    bif b4 then
     some false
    else
     (mkS (a_1.Nets.length : Int) (0 : Int)).bind fun x5 =>
     (qce a_1 n x5 0).bind fun o => match o with
     | (x6, _) =>
      (qbN a_1 n x6 0).bind fun o => match o with
      | (x7, _) =>
       (qcI x5 x7 n 0).bind fun o => match o with
       | .ret r => some r
       | .nxt _ =>
        some true

theorem qi6 {n : Nat} {w : World} {a_0 : qw} {a_1 : ql} {cs1 : List Value} (ha1 : GoT.R w (old w) a_0 cs1) {cs2 : List Value} (ha2 : GoT.R w (old w) a_1 cs2) {r : Bool} (hF : qfH n a_0 a_1 = some r) : RetV Tryz.prog 136 [GoT.v qw cs1, GoT.v ql cs2] w r := by
 obtain ⟨p1, k1, rfl, s1⟩ := qbB ha1
 obtain ⟨p2, k2, p3, k3, p4, k4, rfl, s2, s3, s4⟩ := qaz ha2
 refine qf Tryz.func136 rfl (m := 153) rfl rfl (fun h => ?_)
 rw [qfH] at hF
 refine zSR (qP h rfl rfl ?_)
 intro w1 bb1 h
 refine qP h rfl rfl ?_
 intro w2 bb2 h
 refine zp1 rfl (zNSS ?_)
 obtain ⟨KF2, hKF2, o7, hF, hK7⟩ := bindE hF
 refine qdR (fun e w' => ∃ (b1 : Bool), KF2 b1 = some r ∧ e = [(3, .pointer (some ⟨bb2, 0, none⟩)), (40, .bool b1)] ∧ SH w w' [Ch.box bb2 [.slice p2 a_1.Instances.length k2, .slice p3 a_1.Nets.length k3, .slice p4 a_1.Ports.length k4] 47]) ?_ ?_
 ·refine qB (zl 1 0 h rfl ?_)
  obtain ⟨r4, hr15, hF⟩ := qd hF
  refine qm r4 h call176 (qkZ (h.old ha1) hr15) rfl rfl rfl rfl ?_
  intro w21 h
  refine zp2 rfl ?_
  by_cases hc23 : (!r4) = true
  ·replace hF := bifT hc23 hF
   refine qC hc23 (t := 17) rfl (zn4 rfl (zp2 rfl (zn4 rfl (zp1 rfl ?_))))
   refine zp1 rfl (zn4 rfl (zp2 rfl (zn4 rfl (zp1 rfl ?_))))
   refine qb ?_
   replace h := h.pick [0] rfl
   obtain rfl := qj hF
   exact qu [(3, _), (40, _)] ⟨rfl, rfl, trivial⟩ ⟨_, hK7, rfl, h⟩
  replace hc23 := zb hc23
  replace hF := bifF hc23 hF
  refine qD hc23 (t := 17) rfl (qa rfl (zp1 rfl (qa rfl (zl 0 0 h rfl (qa rfl (zp1 rfl (qa rfl (zp3 rfl ?_))))))))
  by_cases hc24 : (decide ((a_1.Instances.length : Int) > 14)) = true
  ·replace hF := bifT hc24 hF
   refine qC hc24 (t := 23) rfl (zn4 rfl (zp2 rfl (zn4 rfl (zp1 rfl ?_))))
   refine zp1 rfl (zn4 rfl (zp1 rfl (qb ?_)))
   replace h := h.pick [0] rfl
   obtain rfl := qj hF
   exact qu [(3, _), (40, _)] ⟨rfl, rfl, trivial⟩ ⟨_, hK7, rfl, h⟩
  replace hc24 := zb hc24
  replace hF := bifF hc24 hF
  refine qD hc24 (t := 23) rfl (qa rfl (zp1 rfl (qa rfl (zl 0 1 h rfl (qa rfl (zp1 rfl (qa rfl (zp3 rfl ?_))))))))
  by_cases hc25 : (decide ((a_1.Nets.length : Int) > 30)) = true
  ·replace hF := bifT hc25 hF
   refine qC hc25 (t := 29) rfl (zn4 rfl (zp2 rfl (zn4 rfl (zp1 rfl ?_))))
   refine qb ?_
   replace h := h.pick [0] rfl
   obtain rfl := qj hF
   exact qu [(3, _), (40, _)] ⟨rfl, rfl, trivial⟩ ⟨_, hK7, rfl, h⟩
  replace hc25 := zb hc25
  replace hF := bifF hc25 hF
  refine qD hc25 (t := 29) rfl (qa rfl (zp1 rfl (qa rfl (zl 0 2 h rfl (qa rfl (zp1 rfl (qa rfl (zp3 rfl ?_))))))))
  by_cases hc26 : (decide ((a_1.Ports.length : Int) > 8)) = true
  ·replace hF := bifT hc26 hF
   refine qC hc26 (t := 35) rfl (zn4 rfl (zp1 rfl (qb ?_)))
   replace h := h.pick [0] rfl
   obtain rfl := qj hF
   exact qu [(3, _), (40, _)] ⟨rfl, rfl, trivial⟩ ⟨_, hK7, rfl, h⟩
  replace hc26 := zb hc26
  replace hF := bifF hc26 hF
  refine qD hc26 (t := 35) rfl (qa rfl (zl 1 0 h rfl (qa rfl (zl 0 0 h rfl (qa rfl ?_)))))
  obtain ⟨r5, hr16, hF⟩ := qd hF
  refine qm r5 h call177 (qlx (h.old ha1) (h.old ha2) hr16) rfl rfl rfl rfl ?_
  intro w22 h
  refine qa rfl (zp2 rfl (qb ?_))
  replace h := h.pick [0] rfl
  obtain rfl := qj hF
  exact qu [(3, _), (40, _)] ⟨rfl, rfl, trivial⟩ ⟨_, hK7, rfl, h⟩
 rintro e7 w23 ⟨b1, hF, rfl, h⟩
 subst hKF2
 refine qp rfl hF ?_ ?_ <;> intro hF
 ·exact zSR (zp1 rfl (qb (qx qc h hF ⟨rfl, trivial⟩)))
 refine zKSR (qaN qc [] _ ([] : List ByteArray) h rfl rfl rfl rfl rfl rfl rfl rfl rfl trivial rfl ?_)
 intro w3 p5 S1 h
 refine zp1 rfl (zNSSR (zp1 rfl (qb ?_)))
 obtain ⟨o1, hF, hK1⟩ := qd hF
 refine qA (qW [(3, _), (5, _), (6, _)] ⟨rfl, rfl, rfl, trivial⟩ ?_)
 refine qG (fun m e w' => ∃ (S2 : Nat → Prop) (p6 : Option Addr) (ln1 : Nat) (k5 : Nat) (x1 : (List ByteArray)) (i1 : Int), qcg a_1 m x1 i1 = some o1 ∧ e = [(3, .pointer (some ⟨bb2, 0, none⟩)), (5, .slice p6 ln1 k5), (6, .int .i64 i1)] ∧ SH w w' [Ch.own S2 (x1 : List ByteArray) [.slice p6 ln1 k5], Ch.box bb2 [.slice p2 a_1.Instances.length k2, .slice p3 a_1.Nets.length k3, .slice p4 a_1.Ports.length k4] 47]) n ⟨_, _, _, _, _, _, hF, rfl, h⟩ ?_
 rintro m1 e1 w4 ⟨S2, p6, ln1, k5, x1, i1, hF, rfl, h⟩
 obtain rfl := (h.sl 0 rfl).2
 rcases m1 with _ | m1
 ·rw [qcg] at hF
  cases hF
 rw [qcg] at hF
 refine zSSR (zp2 rfl (zl 1 0 h rfl (zp2 rfl (qb ?_))))
 refine qp rfl hF ?_ ?_ <;> intro hF
 ·refine zKSBR (zp2 rfl (zl 1 0 h rfl (zp1 rfl ?_)))
  obtain ⟨y1, hy1, hF⟩ := qd hF
  have he1 := qg hy1
  obtain ⟨b2, o_1, q1, cs3, hp1, hq1, -, hr1, hc3⟩ := s2.at hy1
  obtain ⟨p7, k6, rfl, s5⟩ := qab hr1
  refine zxe hp1 hq1 he1 rfl (zp1 rfl (zc 0 (hc3.below h.below) rfl (qaN qc [.tmp 55] _ ([y1.Name] : List ByteArray) h rfl rfl rfl rfl rfl rfl rfl rfl rfl ⟨rfl, trivial⟩ rfl ?_)))
  intro w5 p8 S3 h
  obtain ⟨x2, hx1, hF⟩ := qd hF
  obtain ⟨g1, hx1⟩ := qbm hx1
  refine qeC qc 1 h rfl (h.sl 0 rfl).1 (h.sl 0 rfl).2 rfl rfl rfl rfl rfl rfl rfl rfl rfl g1 hx1 rfl ?_
  intro w6 p9 k7 S4 h
  refine zp1 rfl (zNER (zp3 rfl (qb ?_)))
  replace h := h.pick [1, 2] rfl
  exact qy m1 [(3, _), (5, _), (6, _)] (Nat.lt_succ_self m1) ⟨rfl, rfl, rfl, trivial⟩ ⟨_, _, _, _, _, _, hF, rfl, h⟩
 refine qF rfl ?_
 obtain rfl := qj hF; replace hF := hK1
 refine zSR (qaN qc [] _ ([] : List ByteArray) h rfl rfl rfl rfl rfl rfl rfl rfl rfl trivial rfl ?_)
 intro w7 p10 S5 h
 refine zp1 rfl (zNSSR (zp1 rfl (qb ?_)))
 obtain ⟨o2, hF, hK2⟩ := qd hF
 refine qA (qW [(3, _), (5, _), (7, _), (8, _)] ⟨rfl, rfl, rfl, rfl, trivial⟩ ?_)
 refine qG (fun m e w' => ∃ (S6 : Nat → Prop) (p11 : Option Addr) (ln2 : Nat) (k8 : Nat) (x3 : (List ByteArray)) (i2 : Int), qcn a_1 m x3 i2 = some o2 ∧ e = [(3, .pointer (some ⟨bb2, 0, none⟩)), (5, .slice p6 x1.length k5), (7, .slice p11 ln2 k8), (8, .int .i64 i2)] ∧ SH w w' [Ch.own S6 (x3 : List ByteArray) [.slice p11 ln2 k8], Ch.own S2 (x1 : List ByteArray) [.slice p6 x1.length k5], Ch.box bb2 [.slice p2 a_1.Instances.length k2, .slice p3 a_1.Nets.length k3, .slice p4 a_1.Ports.length k4] 47]) n ⟨_, _, _, _, _, _, hF, rfl, h⟩ ?_
 rintro m2 e2 w8 ⟨S6, p11, ln2, k8, x3, i2, hF, rfl, h⟩
 obtain rfl := (h.sl 0 rfl).2
 rcases m2 with _ | m2
 ·rw [qcn] at hF
  cases hF
 rw [qcn] at hF
 refine zSSR (zp2 rfl (zl 2 2 h rfl (zp2 rfl (qb ?_))))
 refine qp rfl hF ?_ ?_ <;> intro hF
 ·refine zKSBR (zp2 rfl (zl 2 2 h rfl (zp1 rfl ?_)))
  obtain ⟨y2, hy2, hF⟩ := qd hF
  have he2 := qg hy2
  obtain ⟨b3, o_2, q2, cs4, hp2, hq2, -, hr2, hc5⟩ := s4.at hy2
  obtain rfl := qbz hr2
  refine zxe hp2 hq2 he2 rfl (zp1 rfl (zc 0 (hc5.below h.below) rfl (qaN qc [.tmp 72] _ ([y2.Name] : List ByteArray) h rfl rfl rfl rfl rfl rfl rfl rfl rfl ⟨rfl, trivial⟩ rfl ?_)))
  intro w9 p12 S7 h
  obtain ⟨x4, hx2, hF⟩ := qd hF
  obtain ⟨g2, hx2⟩ := qbm hx2
  refine qeC qc 1 h rfl (h.sl 0 rfl).1 (h.sl 0 rfl).2 rfl rfl rfl rfl rfl rfl rfl rfl rfl g2 hx2 rfl ?_
  intro w10 p13 k9 S8 h
  refine zp1 rfl (zNER (zp3 rfl (qb ?_)))
  replace h := h.pick [1, 2, 3] rfl
  exact qy m2 [(3, _), (5, _), (7, _), (8, _)] (Nat.lt_succ_self m2) ⟨rfl, rfl, rfl, rfl, trivial⟩ ⟨_, _, _, _, _, _, hF, rfl, h⟩
 refine qF rfl ?_
 obtain rfl := qj hF; replace hF := hK2
 refine zSS ?_
 obtain ⟨KF1, hKF1, o6, hF, hK6⟩ := bindE hF
 refine qdR (fun e w' => ∃ (b4 : Bool), KF1 b4 = some r ∧ e = [(3, .pointer (some ⟨bb2, 0, none⟩)), (88, .bool b4)] ∧ SH w w' [Ch.box bb2 [.slice p2 a_1.Instances.length k2, .slice p3 a_1.Nets.length k3, .slice p4 a_1.Ports.length k4] 47]) ?_ ?_
 ·refine qB (zp1 rfl ?_)
  obtain ⟨r1, hr12, hF⟩ := qd hF
  refine qm r1 h call178 (qhP (h.own 1 rfl) hr12) rfl rfl rfl rfl ?_
  intro w17 h
  refine zp2 rfl ?_
  by_cases hc21 : (!r1) = true
  ·replace hF := bifT hc21 hF
   refine qC hc21 (t := 78) rfl (zn3 rfl (zp2 rfl (zn4 rfl (zp1 rfl (qb ?_)))))
   replace h := h.pick [2] rfl
   obtain rfl := qj hF
   exact qu [(3, _), (88, _)] ⟨rfl, rfl, trivial⟩ ⟨_, hK6, rfl, h⟩
  replace hc21 := zb hc21
  replace hF := bifF hc21 hF
  refine qD hc21 (t := 78) rfl (qa rfl (zp1 rfl (qa rfl ?_)))
  obtain ⟨r2, hr13, hF⟩ := qd hF
  refine qm r2 h call178 (qhP (h.own 0 rfl) hr13) rfl rfl rfl rfl ?_
  intro w18 h
  refine qa rfl (zp3 rfl ?_)
  by_cases hc22 : (!r2) = true
  ·replace hF := bifT hc22 hF
   refine qC hc22 (t := 83) rfl (zn4 rfl (zp1 rfl (qb ?_)))
   replace h := h.pick [2] rfl
   obtain rfl := qj hF
   exact qu [(3, _), (88, _)] ⟨rfl, rfl, trivial⟩ ⟨_, hK6, rfl, h⟩
  replace hc22 := zb hc22
  replace hF := bifF hc22 hF
  refine qD hc22 (t := 83) rfl (qa rfl (zp1 rfl (qa rfl (zl 2 1 h rfl (qa rfl ?_)))))
  obtain ⟨r3, hr14, hF⟩ := qd hF
  refine qm r3 h call178 (qhP ⟨_, _, rfl, (h.oldS s3)⟩ hr14) rfl rfl rfl rfl ?_
  intro w19 h
  refine qa rfl (zp2 rfl (qb ?_))
  replace h := h.pick [2] rfl
  obtain rfl := qj hF
  exact qu [(3, _), (88, _)] ⟨rfl, rfl, trivial⟩ ⟨_, hK6, rfl, h⟩
 rintro e6 w20 ⟨b4, hF, rfl, h⟩
 subst hKF1
 refine qp rfl hF ?_ ?_ <;> intro hF
 ·exact zSR (zp1 rfl (qb (qx qc h hF ⟨rfl, trivial⟩)))
 refine zKSR (zp1 rfl (zl 0 1 h rfl (zp1 rfl ?_)))
 obtain ⟨x5, hx3, hF⟩ := qd hF
 obtain ⟨g3, g4, hx3⟩ := qdH hx3
 refine qeJ qc Int h rfl rfl rfl rfl rfl rfl rfl rfl rfl g3 g4 hx3 rfl ?_
 intro w11 S9 p14 h
 refine zp1 rfl (zNSSR (zp1 rfl (qb ?_)))
 obtain ⟨o3, hF, hK3⟩ := qd hF
 refine qA (qW [(3, _), (9, _), (10, _)] ⟨rfl, rfl, rfl, trivial⟩ ?_)
 refine qG (fun m e w' => ∃ (x6 : (List Int)) (i3 : Int), qce a_1 m x6 i3 = some o3 ∧ e = [(3, .pointer (some ⟨bb2, 0, none⟩)), (9, .slice p14 x5.length x5.length), (10, .int .i64 i3)] ∧ SH w w' [Ch.own S9 (x6 : List Int) [.slice p14 x5.length x5.length], Ch.box bb2 [.slice p2 a_1.Instances.length k2, .slice p3 a_1.Nets.length k3, .slice p4 a_1.Ports.length k4] 47]) n ⟨_, _, hF, rfl, h⟩ ?_
 rintro m3 e3 w12 ⟨x6, i3, hF, rfl, h⟩
 rcases m3 with _ | m3
 ·rw [qce] at hF
  cases hF
 rw [qce] at hF
 refine zSSR (zp2 rfl (zl 1 0 h rfl (zp2 rfl (qb ?_))))
 refine qp rfl hF ?_ ?_ <;> intro hF
 ·refine zKSBSR (zp1 rfl (zl 1 0 h rfl (zp1 rfl ?_)))
  obtain ⟨y3, hy3, hF⟩ := qd hF
  have he3 := qg hy3
  obtain ⟨b5, o_3, q3, cs5, hp3, hq3, -, hr3, hc8⟩ := s2.at hy3
  obtain ⟨p15, k10, rfl, s6⟩ := qab hr3
  refine zxe hp3 hq3 he3 rfl (zp1 rfl (zc 2 (hc8.below h.below) rfl (zp1 rfl (qb (qB (zp5 rfl ?_))))))
  obtain ⟨y4, hy4, hF⟩ := qd hF
  have he4 := qg hy4
  obtain ⟨b6, o_4, q4, cs6, hp4, hq4, -, hr4, hc9⟩ := s6.at hy4
  obtain rfl := hr4
  refine zxe hp4 hq4 he4 rfl (zc 0 (hc9.below h.below) rfl ?_)
  obtain ⟨y5, hy5, hF⟩ := qd hF
  have he5 := qg hy5
  obtain ⟨b7, o_5, q5, cs7, hp5, hq5, -, hr5, hc10⟩ := (h.sl 0 rfl).1.at hy5
  obtain rfl := hr5
  refine zx hp5 hq5 ⟨he5.1, qa8 he5.2.1 (h.sl 0 rfl).2⟩ rfl (zc 0 hc10 rfl (zp1 rfl ?_))
  obtain ⟨y6, hy6, hF⟩ := qd hF
  have he6 := qg hy6
  obtain ⟨b8, o_6, q6, cs8, hp6, hq6, -, hr6, hc11⟩ := (h.sl 0 rfl).1.at hy6
  obtain rfl := hr6
  refine zx hp6 hq6 ⟨he6.1, qa8 he6.2.1 (h.sl 0 rfl).2⟩ rfl (qfQ qc 0 0 (W64 (y5 + 1)) h rfl hy6 hp6 hq6 rfl hc11 rfl rfl rfl rfl rfl rfl rfl ?_)
  intro w13 h
  exact zNER (zp3 rfl (qb (qy m3 [(3, _), (9, _), (10, _)] (Nat.lt_succ_self m3) ⟨rfl, rfl, rfl, trivial⟩ ⟨_, _, hF, rfl, h⟩)))
 refine qF rfl ?_
 obtain rfl := qj hF; replace hF := hK3
 refine zSSR (zp1 rfl (qb ?_))
 obtain ⟨o4, hF, hK4⟩ := qd hF
 refine qA (qW [(3, _), (9, _), (12, _)] ⟨rfl, rfl, rfl, trivial⟩ ?_)
 refine qG (fun m e w' => ∃ (x7 : (List Int)) (i4 : Int), qbN a_1 m x7 i4 = some o4 ∧ e = [(3, .pointer (some ⟨bb2, 0, none⟩)), (9, .slice p14 x5.length x5.length), (12, .int .i64 i4)] ∧ SH w w' [Ch.own S9 (x7 : List Int) [.slice p14 x5.length x5.length], Ch.box bb2 [.slice p2 a_1.Instances.length k2, .slice p3 a_1.Nets.length k3, .slice p4 a_1.Ports.length k4] 47]) n ⟨_, _, hF, rfl, h⟩ ?_
 rintro m4 e4 w14 ⟨x7, i4, hF, rfl, h⟩
 rcases m4 with _ | m4
 ·rw [qbN] at hF
  cases hF
 rw [qbN] at hF
 refine zSSR (zp2 rfl (zl 1 2 h rfl (zp2 rfl (qb ?_))))
 refine qp rfl hF ?_ ?_ <;> intro hF
 ·refine zKSBSR (zp1 rfl (zl 1 2 h rfl (zp1 rfl ?_)))
  obtain ⟨y7, hy7, hF⟩ := qd hF
  have he7 := qg hy7
  obtain ⟨b9, o_7, q7, cs9, hp7, hq7, -, hr7, hc13⟩ := s4.at hy7
  obtain rfl := qbz hr7
  refine zxe hp7 hq7 he7 rfl (zp1 rfl (zc 1 (hc13.below h.below) rfl (zp1 rfl (qb ?_))))
  refine qp rfl hF ?_ ?_ <;> intro hF
  ·refine qB (zp2 rfl (zl 1 2 h rfl (zp1 rfl ?_)))
   obtain ⟨y8, hy8, hF⟩ := qd hF
   have he8 := qg hy8
   obtain ⟨b10, o_8, q8, cs10, hp8, hq8, -, hr8, hc15⟩ := s4.at hy8
   obtain rfl := qbz hr8
   refine zxe hp8 hq8 he8 rfl (zp1 rfl (zc 2 (hc15.below h.below) rfl ?_))
   obtain ⟨y9, hy9, hF⟩ := qd hF
   have he9 := qg hy9
   obtain ⟨b11, o_9, q9, cs11, hp9, hq9, -, hr9, hc16⟩ := (h.sl 0 rfl).1.at hy9
   obtain rfl := hr9
   refine zx hp9 hq9 ⟨he9.1, qa8 he9.2.1 (h.sl 0 rfl).2⟩ rfl (zc 0 hc16 rfl (zp1 rfl ?_))
   obtain ⟨y10, hy10, hF⟩ := qd hF
   have he10 := qg hy10
   obtain ⟨b12, o_10, q10, cs12, hp10, hq10, -, hr10, hc17⟩ := (h.sl 0 rfl).1.at hy10
   obtain rfl := hr10
   refine zx hp10 hq10 ⟨he10.1, qa8 he10.2.1 (h.sl 0 rfl).2⟩ rfl (qfQ qc 0 0 (W64 (y9 + 1)) h rfl hy10 hp10 hq10 rfl hc17 rfl rfl rfl rfl rfl rfl rfl ?_)
   intro w15 h
   exact zNER (zp3 rfl (qb (qy m4 [(3, _), (9, _), (12, _)] (Nat.lt_succ_self m4) ⟨rfl, rfl, rfl, trivial⟩ ⟨_, _, hF, rfl, h⟩)))
  exact zKER (zp3 rfl (qb (qy m4 [(3, _), (9, _), (12, _)] (Nat.lt_succ_self m4) ⟨rfl, rfl, rfl, trivial⟩ ⟨_, _, hF, rfl, h⟩)))
 refine qF rfl ?_
 obtain rfl := qj hF; replace hF := hK4
 refine zSSR (zp1 rfl (qb ?_))
 obtain ⟨o5, hF, hK5⟩ := qd hF
 refine qA ?_
 replace h := h.pick [0] rfl
 refine qW [(9, _), (13, _)] ⟨rfl, rfl, trivial⟩ ?_
 refine qG (fun m e w' => ∃ (i5 : Int), qcI x5 x7 m i5 = some o5 ∧ e = [(9, .slice p14 x5.length x5.length), (13, .int .i64 i5)] ∧ SH w w' [Ch.own S9 (x7 : List Int) [.slice p14 x5.length x5.length]]) n ⟨_, hF, rfl, h⟩ ?_
 rintro m5 e5 w16 ⟨i5, hF, rfl, h⟩
 rcases m5 with _ | m5
 ·rw [qcI] at hF
  cases hF
 rw [qcI] at hF
 refine zSSR (zp4 rfl (qb ?_))
 refine qp rfl hF ?_ ?_ <;> intro hF
 ·refine zKSBSR (zp2 rfl ?_)
  obtain ⟨y11, hy11, hF⟩ := qd hF
  have he11 := qg hy11
  obtain ⟨b13, o_11, q11, cs13, hp11, hq11, -, hr11, hc19⟩ := (h.sl 0 rfl).1.at hy11
  obtain rfl := hr11
  refine zx hp11 hq11 ⟨he11.1, qa8 he11.2.1 (h.sl 0 rfl).2⟩ rfl (zc 0 hc19 rfl (zp1 rfl (qb ?_)))
  refine qp rfl hF ?_ ?_ <;> intro hF
  ·refine zSR (zp1 rfl (qb ?_))
   obtain rfl := qj hF; replace hF := hK5
   exact qx qc h hF ⟨rfl, trivial⟩
  exact zKER (zp3 rfl (qb (qy m5 [(9, _), (13, _)] (Nat.lt_succ_self m5) ⟨rfl, rfl, trivial⟩ ⟨_, hF, rfl, h⟩)))
 refine qF rfl ?_
 obtain rfl := qj hF; replace hF := hK5
 exact zSR (zp1 rfl (qb (qx qc h hF ⟨rfl, trivial⟩)))

def qdy (a_0 : qaj) : Nat → Int → Option (Flow Bool Int)
 | 0, _ => none
 | n + 1, i2 =>
  bif decide (i2 < (a_0.Sink.length : Int)) then
   (idx a_0.Sink i2).bind fun y7 =>
   (qaA n y7 0 (W64 ((a_0.Parent.length : Int) - 1))).bind fun r5 =>
   bif (!r5) then
    some (.ret false)
   else
    qdy a_0 n (W64 (i2 + 1))
  else
   some (.nxt i2)

def qb4 (a_0 : qaj) : Nat → Int → Option (Flow Bool Int)
 | 0, _ => none
 | n + 1, i1 =>
  bif decide (i1 < (a_0.Parent.length : Int)) then
   (
    (idx a_0.Cap i1).bind fun y5 =>
    (qaA n y5 0 500).bind fun r3 =>
    bif (!r3) then
     some true
    else
     (idx a_0.Res i1).bind fun y6 =>
     (qaA n y6 0 1000).bind fun r4 =>
     some (!r4)).bind fun b2 =>
   bif b2 then
    some (.ret false)
   else
    bif (i1 == 0) then
     (idx a_0.Parent i1).bind fun y1 =>
     bif (y1 != (-1)) then
      some (.ret false)
     else
      (idx a_0.Res i1).bind fun y2 =>
      bif (y2 != 0) then
       some (.ret false)
      else
       bif decide (i1 > 0) then
        (idx a_0.Parent i1).bind fun y3 =>
        (qaA n y3 0 (W64 (i1 - 1))).bind fun r1 =>
        bif (!r1) then
         some (.ret false)
        else
         qb4 a_0 n (W64 (i1 + 1))
       else
        qb4 a_0 n (W64 (i1 + 1))
    else
     bif decide (i1 > 0) then
      (idx a_0.Parent i1).bind fun y4 =>
      (qaA n y4 0 (W64 (i1 - 1))).bind fun r2 =>
      bif (!r2) then
       some (.ret false)
      else
       qb4 a_0 n (W64 (i1 + 1))
     else
      qb4 a_0 n (W64 (i1 + 1))
  else
   some (.nxt i1)

def qh5 (n : Nat) (a_0 : qaj) (a_1 : Int) : Option Bool :=
 (
  bif decide ((a_0.Parent.length : Int) < 1) then
   some true
  else
   bif decide ((a_0.Parent.length : Int) > 8) then
    some true
   else
    bif ((a_0.Res.length : Int) != (a_0.Parent.length : Int)) then
     some true
    else
     bif ((a_0.Cap.length : Int) != (a_0.Parent.length : Int)) then
      some true
     else
      some ((a_0.Sink.length : Int) != a_1)).bind fun b1 =>
 bif b1 then
  some false
 else
  (qb4 a_0 n 0).bind fun o => match o with
  | .ret r => some r
  | .nxt _ =>
   (qdy a_0 n 0).bind fun o => match o with
   | .ret r => some r
   | .nxt _ =>
    some true

theorem qmy {n : Nat} {w : World} {a_0 : qaj} {a_1 : Int} {cs1 : List Value} (ha1 : GoT.R w (old w) a_0 cs1) {r : Bool} (hF : qh5 n a_0 a_1 = some r) : RetV Tryz.prog 137 [GoT.v qaj cs1, .int .i64 a_1] w r := by
 obtain ⟨p1, k1, p2, k2, p3, k3, p4, k4, rfl, s1, s2, s3, s4⟩ := qbU ha1
 refine qf Tryz.func137 rfl (m := 108) rfl rfl (fun h => ?_)
 rw [qh5] at hF
 refine zSR (qP h rfl rfl ?_)
 intro w1 bb1 h
 refine zp1 rfl (zNSR (zp1 rfl (zl 0 0 h rfl (zp2 rfl (zNSS ?_)))))
 obtain ⟨KF2, hKF2, o4, hF, hK4⟩ := bindE hF
 refine qdR (fun e w' => ∃ (b1 : Bool), KF2 b1 = some r ∧ e = [(2, .pointer (some ⟨bb1, 0, none⟩)), (5, .int .i64 (a_0.Parent.length : Int)), (37, .bool b1)] ∧ SH w w' [Ch.box bb1 [.slice p1 a_0.Parent.length k1, .slice p2 a_0.Res.length k2, .slice p3 a_0.Cap.length k3, .slice p4 a_0.Sink.length k4] 130]) ?_ ?_
 ·refine qB (zp3 rfl ?_)
  by_cases hc21 : (decide ((a_0.Parent.length : Int) < 1)) = true
  ·replace hF := bifT hc21 hF
   refine qC hc21 (t := 13) rfl (zn2 rfl (zp2 rfl (zn5 rfl (zp2 rfl ?_))))
   refine zn5 rfl (zp2 rfl (zn5 rfl ?_))
   refine zp1 rfl (qb ?_)
   obtain rfl := qj hF
   exact qu [(2, _), (5, _), (37, _)] ⟨rfl, rfl, rfl, trivial⟩ ⟨_, hK4, rfl, h⟩
  replace hc21 := zb hc21
  replace hF := bifF hc21 hF
  refine qD hc21 (t := 13) rfl (qa rfl (zp1 rfl (qa rfl (zp3 rfl ?_))))
  by_cases hc22 : (decide ((a_0.Parent.length : Int) > 8)) = true
  ·replace hF := bifT hc22 hF
   refine qC hc22 (t := 17) rfl (zn5 rfl (zp2 rfl (zn4 rfl ?_)))
   refine zn1 rfl (zp2 rfl (zn5 rfl (zp1 rfl (qb ?_))))
   obtain rfl := qj hF
   exact qu [(2, _), (5, _), (37, _)] ⟨rfl, rfl, rfl, trivial⟩ ⟨_, hK4, rfl, h⟩
  replace hc22 := zb hc22
  replace hF := bifF hc22 hF
  refine qD hc22 (t := 17) rfl (qa rfl (zp1 rfl (qa rfl (zl 0 1 h rfl (qa rfl (zp1 rfl (qa rfl (zp1 rfl (qa rfl (zp2 rfl ?_))))))))))
  refine zp1 rfl ?_
  by_cases hc23 : ((a_0.Res.length : Int) != (a_0.Parent.length : Int)) = true
  ·replace hF := bifT hc23 hF
   refine qC hc23 (t := 24) rfl (zn5 rfl (zp2 rfl (zn4 rfl ?_)))
   refine zn1 rfl (zp1 rfl (qb ?_))
   obtain rfl := qj hF
   exact qu [(2, _), (5, _), (37, _)] ⟨rfl, rfl, rfl, trivial⟩ ⟨_, hK4, rfl, h⟩
  replace hc23 := zb hc23
  replace hF := bifF hc23 hF
  refine qD hc23 (t := 24) rfl (qa rfl (zp1 rfl (qa rfl (zl 0 2 h rfl (qa rfl (zp1 rfl (qa rfl (zp1 rfl (qa rfl (zp2 rfl ?_))))))))))
  refine zp1 rfl ?_
  by_cases hc24 : ((a_0.Cap.length : Int) != (a_0.Parent.length : Int)) = true
  ·replace hF := bifT hc24 hF
   refine qC hc24 (t := 31) rfl (zn5 rfl (zp1 rfl (qb ?_)))
   obtain rfl := qj hF
   exact qu [(2, _), (5, _), (37, _)] ⟨rfl, rfl, rfl, trivial⟩ ⟨_, hK4, rfl, h⟩
  replace hc24 := zb hc24
  replace hF := bifF hc24 hF
  refine qD hc24 (t := 31) rfl (qa rfl (zp1 rfl (qa rfl (zl 0 3 h rfl (qa rfl (zp1 rfl (qa rfl (zp1 rfl (qa rfl (zp2 rfl ?_))))))))))
  refine qb ?_
  obtain rfl := qj hF
  exact qu [(2, _), (5, _), (37, _)] ⟨rfl, rfl, rfl, trivial⟩ ⟨_, hK4, rfl, h⟩
 rintro e4 w10 ⟨b1, hF, rfl, h⟩
 subst hKF2
 refine qp rfl hF ?_ ?_ <;> intro hF
 ·exact zSR (zp1 rfl (qb (qx qc h hF ⟨rfl, trivial⟩)))
 refine zKSSR (zp1 rfl (qb ?_))
 obtain ⟨o1, hF, hK1⟩ := qd hF
 refine qA (qW [(2, _), (5, _), (6, _)] ⟨rfl, rfl, rfl, trivial⟩ ?_)
 refine qG (fun m e w' => ∃ (i1 : Int), qb4 a_0 m i1 = some o1 ∧ e = [(2, .pointer (some ⟨bb1, 0, none⟩)), (5, .int .i64 (a_0.Parent.length : Int)), (6, .int .i64 i1)] ∧ SH w w' [Ch.box bb1 [.slice p1 a_0.Parent.length k1, .slice p2 a_0.Res.length k2, .slice p3 a_0.Cap.length k3, .slice p4 a_0.Sink.length k4] 130]) n ⟨_, hF, rfl, h⟩ ?_
 rintro m1 e1 w2 ⟨i1, hF, rfl, h⟩
 rcases m1 with _ | m1
 ·rw [qb4] at hF
  cases hF
 rw [qb4] at hF
 refine zSSR (zp3 rfl (qb ?_))
 refine qp rfl hF ?_ ?_ <;> intro hF
 ·refine zKSB (zSS ?_)
  obtain ⟨KF1, hKF1, o2, hF, hK2⟩ := bindE hF
  refine qdR (fun e w' => ∃ (b2 : Bool), KF1 b2 = some o1 ∧ e = [(2, .pointer (some ⟨bb1, 0, none⟩)), (5, .int .i64 (a_0.Parent.length : Int)), (6, .int .i64 i1), (58, .bool b2)] ∧ SH w w' [Ch.box bb1 [.slice p1 a_0.Parent.length k1, .slice p2 a_0.Res.length k2, .slice p3 a_0.Cap.length k3, .slice p4 a_0.Sink.length k4] 130]) ?_ ?_
  ·refine qB (zp1 rfl (zl 0 2 h rfl (zp1 rfl ?_)))
   obtain ⟨y5, hy5, hF⟩ := qd hF
   have he5 := qg hy5
   obtain ⟨b7, o_5, q5, cs6, hp5, hq5, -, hr7, hc15⟩ := s3.at hy5
   obtain rfl := hr7
   refine zxe hp5 hq5 he5 rfl (zc 0 (hc15.below h.below) rfl ?_)
   obtain ⟨r3, hr8, hF⟩ := qd hF
   refine qm r3 h call77 (qal hr8) rfl rfl rfl rfl ?_
   intro w5 h
   refine zp2 rfl ?_
   by_cases hc16 : (!r3) = true
   ·replace hF := bifT hc16 hF
    refine qC hc16 (t := 50) rfl (zn5 rfl (zn2 rfl (zp1 rfl (qb ?_))))
    obtain rfl := qj hF
    exact qu [(2, _), (5, _), (6, _), (58, _)] ⟨rfl, rfl, rfl, rfl, trivial⟩ ⟨_, hK2, rfl, h⟩
   replace hc16 := zb hc16
   replace hF := bifF hc16 hF
   refine qD hc16 (t := 50) rfl (qa rfl (zp1 rfl (qa rfl (zl 0 1 h rfl (qa rfl (zp1 rfl (qa rfl ?_)))))))
   obtain ⟨y6, hy6, hF⟩ := qd hF
   have he6 := qg hy6
   obtain ⟨b8, o_6, q6, cs7, hp6, hq6, -, hr9, hc17⟩ := s2.at hy6
   obtain rfl := hr9
   refine zxe hp6 hq6 he6 rfl (qa rfl (zc 0 (hc17.below h.below) rfl (qa rfl ?_)))
   obtain ⟨r4, hr10, hF⟩ := qd hF
   refine qm r4 h call77 (qal hr10) rfl rfl rfl rfl ?_
   intro w6 h
   refine qa rfl (zp2 rfl (qb ?_))
   obtain rfl := qj hF
   exact qu [(2, _), (5, _), (6, _), (58, _)] ⟨rfl, rfl, rfl, rfl, trivial⟩ ⟨_, hK2, rfl, h⟩
  rintro e2 w7 ⟨b2, hF, rfl, h⟩
  subst hKF1
  refine qp rfl hF ?_ ?_ <;> intro hF
  ·refine zSR (zp1 rfl (qb ?_))
   obtain rfl := qj hF; replace hF := hK1
   exact qx qc h hF ⟨rfl, trivial⟩
  refine zKSR (zp3 rfl ?_)
  by_cases hc4 : (i1 == 0) = true
  ·replace hF := bifT hc4 hF
   refine qC hc4 (t := 61) rfl (qa rfl (zp1 rfl (qa rfl (zl 0 0 h rfl (qa rfl (zp1 rfl (qa rfl ?_)))))))
   obtain ⟨y1, hy1, hF⟩ := qd hF
   have he1 := qg hy1
   obtain ⟨b3, o_1, q1, cs2, hp1, hq1, -, hr1, hc5⟩ := s1.at hy1
   obtain rfl := hr1
   refine zxe hp1 hq1 he1 rfl (qa rfl (zc 0 (hc5.below h.below) rfl (qa rfl (zp1 rfl (qa rfl (zp1 rfl ?_))))))
   by_cases hc6 : (y1 != (-1)) = true
   ·replace hF := bifT hc6 hF
    refine qC hc6 (t := 68) rfl (zn5 rfl (zn1 rfl (qa rfl (zp3 rfl (zn1 rfl ?_)))))
    refine zn5 rfl (zn5 rfl (zn2 rfl ?_))
    refine zp1 rfl (qb (qez rfl rfl (zSR (zp1 rfl (qb ?_)))))
    obtain rfl := qj hF; replace hF := hK1
    exact qx qc h hF ⟨rfl, trivial⟩
   replace hc6 := zb hc6
   replace hF := bifF hc6 hF
   refine qD hc6 (t := 68) rfl (qa rfl (zp1 rfl (qa rfl (zl 0 1 h rfl (qa rfl (zp1 rfl (qa rfl ?_)))))))
   obtain ⟨y2, hy2, hF⟩ := qd hF
   have he2 := qg hy2
   obtain ⟨b4, o_2, q2, cs3, hp2, hq2, -, hr2, hc7⟩ := s2.at hy2
   obtain rfl := hr2
   refine zxe hp2 hq2 he2 rfl (qa rfl (zc 0 (hc7.below h.below) rfl (qa rfl (zp1 rfl (qa rfl (zp3 rfl ?_))))))
   by_cases hc8 : (y2 != 0) = true
   ·replace hF := bifT hc8 hF
    refine qC hc8 (t := 77) rfl (zn5 rfl (zn5 rfl (zn1 rfl ?_)))
    refine zn2 rfl (zp1 rfl (qb (qez rfl rfl (zSR (zp1 rfl (qb ?_))))))
    obtain rfl := qj hF; replace hF := hK1
    exact qx qc h hF ⟨rfl, trivial⟩
   replace hc8 := zb hc8
   replace hF := bifF hc8 hF
   refine qD hc8 (t := 77) rfl (qa rfl (zp1 rfl (qa rfl (zp1 rfl (qa rfl (zp1 rfl ?_))))))
   by_cases hc9 : (decide (i1 > 0)) = true
   ·replace hF := bifT hc9 hF
    refine qC hc9 (t := 80) rfl (qa rfl (zp1 rfl (qa rfl (zl 0 0 h rfl (qa rfl (zp1 rfl (qa rfl ?_)))))))
    obtain ⟨y3, hy3, hF⟩ := qd hF
    have he3 := qg hy3
    obtain ⟨b5, o_3, q3, cs4, hp3, hq3, -, hr3, hc10⟩ := s1.at hy3
    obtain rfl := hr3
    refine zxe hp3 hq3 he3 rfl (qa rfl (zc 0 (hc10.below h.below) rfl (qa rfl (zp1 rfl (qa rfl (zp1 rfl (qa rfl ?_)))))))
    obtain ⟨r1, hr4, hF⟩ := qd hF
    refine qm r1 h call77 (qal hr4) rfl rfl rfl rfl ?_
    intro w3 h
    refine qa rfl (zp1 rfl (qa rfl (zp2 rfl (qb ?_))))
    refine qp rfl hF ?_ ?_ <;> intro hF
    ·refine zSR (zp1 rfl (qb ?_))
     obtain rfl := qj hF; replace hF := hK1
     exact qx qc h hF ⟨rfl, trivial⟩
    exact zKER (zp3 rfl (qb (qy m1 [(2, _), (5, _), (6, _)] (Nat.lt_succ_self m1) ⟨rfl, rfl, rfl, trivial⟩ ⟨_, hF, rfl, h⟩)))
   replace hc9 := zb hc9
   replace hF := bifF hc9 hF
   refine qD hc9 (t := 80) rfl (zn5 rfl (zn4 rfl (qa rfl (zp1 rfl ?_))))
   exact zp1 rfl (qb (qcG rfl rfl (zKER (zp3 rfl (qb (qy m1 [(2, _), (5, _), (6, _)] (Nat.lt_succ_self m1) ⟨rfl, rfl, rfl, trivial⟩ ⟨_, hF, rfl, h⟩))))))
  replace hc4 := zb hc4
  replace hF := bifF hc4 hF
  refine qD hc4 (t := 61) rfl (zn5 rfl (zn5 rfl (zn1 rfl ?_)))
  refine zn3 rfl (zp2 rfl (qa rfl (zp1 rfl (qa rfl (zp1 rfl (qa rfl (zp1 rfl ?_)))))))
  by_cases hc12 : (decide (i1 > 0)) = true
  ·replace hF := bifT hc12 hF
   refine qC hc12 (t := 80) rfl (qa rfl (zp1 rfl (qa rfl (zl 0 0 h rfl (qa rfl (zp1 rfl (qa rfl ?_)))))))
   obtain ⟨y4, hy4, hF⟩ := qd hF
   have he4 := qg hy4
   obtain ⟨b6, o_4, q4, cs5, hp4, hq4, -, hr5, hc13⟩ := s1.at hy4
   obtain rfl := hr5
   refine zxe hp4 hq4 he4 rfl (qa rfl (zc 0 (hc13.below h.below) rfl (qa rfl (zp1 rfl (qa rfl (zp1 rfl (qa rfl ?_)))))))
   obtain ⟨r2, hr6, hF⟩ := qd hF
   refine qm r2 h call77 (qal hr6) rfl rfl rfl rfl ?_
   intro w4 h
   refine qa rfl (zp1 rfl (qa rfl (zp2 rfl (qb ?_))))
   refine qp rfl hF ?_ ?_ <;> intro hF
   ·refine zSR (zp1 rfl (qb ?_))
    obtain rfl := qj hF; replace hF := hK1
    exact qx qc h hF ⟨rfl, trivial⟩
   exact zKER (zp3 rfl (qb (qy m1 [(2, _), (5, _), (6, _)] (Nat.lt_succ_self m1) ⟨rfl, rfl, rfl, trivial⟩ ⟨_, hF, rfl, h⟩)))
  replace hc12 := zb hc12
  replace hF := bifF hc12 hF
  refine qD hc12 (t := 80) rfl (zn5 rfl (zn4 rfl (qa rfl (zp1 rfl ?_))))
  exact zp1 rfl (qb (qcG rfl rfl (zKER (zp3 rfl (qb (qy m1 [(2, _), (5, _), (6, _)] (Nat.lt_succ_self m1) ⟨rfl, rfl, rfl, trivial⟩ ⟨_, hF, rfl, h⟩))))))
 refine qF rfl ?_
 obtain rfl := qj hF; replace hF := hK1
 refine zSSR (zp1 rfl (qb ?_))
 obtain ⟨o3, hF, hK3⟩ := qd hF
 refine qA (qW [(2, _), (5, _), (7, _)] ⟨rfl, rfl, rfl, trivial⟩ ?_)
 refine qG (fun m e w' => ∃ (i2 : Int), qdy a_0 m i2 = some o3 ∧ e = [(2, .pointer (some ⟨bb1, 0, none⟩)), (5, .int .i64 (a_0.Parent.length : Int)), (7, .int .i64 i2)] ∧ SH w w' [Ch.box bb1 [.slice p1 a_0.Parent.length k1, .slice p2 a_0.Res.length k2, .slice p3 a_0.Cap.length k3, .slice p4 a_0.Sink.length k4] 130]) n ⟨_, hF, rfl, h⟩ ?_
 rintro m2 e3 w8 ⟨i2, hF, rfl, h⟩
 rcases m2 with _ | m2
 ·rw [qdy] at hF
  cases hF
 rw [qdy] at hF
 refine zSSR (zp2 rfl (zl 0 3 h rfl (zp2 rfl (qb ?_))))
 refine qp rfl hF ?_ ?_ <;> intro hF
 ·refine zKSBSR (zp1 rfl (zl 0 3 h rfl (zp1 rfl ?_)))
  obtain ⟨y7, hy7, hF⟩ := qd hF
  have he7 := qg hy7
  obtain ⟨b9, o_7, q7, cs8, hp7, hq7, -, hr11, hc19⟩ := s4.at hy7
  obtain rfl := hr11
  refine zxe hp7 hq7 he7 rfl (zc 0 (hc19.below h.below) rfl (zp2 rfl ?_))
  obtain ⟨r5, hr12, hF⟩ := qd hF
  refine qm r5 h call77 (qal hr12) rfl rfl rfl rfl ?_
  intro w9 h
  refine zp1 rfl (qb ?_)
  refine qp rfl hF ?_ ?_ <;> intro hF
  ·refine zSR (zp1 rfl (qb ?_))
   obtain rfl := qj hF; replace hF := hK3
   exact qx qc h hF ⟨rfl, trivial⟩
  exact zKER (zp3 rfl (qb (qy m2 [(2, _), (5, _), (7, _)] (Nat.lt_succ_self m2) ⟨rfl, rfl, rfl, trivial⟩ ⟨_, hF, rfl, h⟩)))
 refine qF rfl ?_
 obtain rfl := qj hF; replace hF := hK3
 exact zSR (zp1 rfl (qb (qx qc h hF ⟨rfl, trivial⟩)))

def qb2 (i1 : Int) (y1 : qr) : Nat → (List Tl05Place) → Int → Option ((List Tl05Place) × Int)
 | 0, _, _ => none
 | n + 1, x2, i2 =>
  bif decide (i2 < (y1.Nets.length : Int)) then
   (idx y1.Nets i2).bind fun y2 =>
   (appS x2 ([(⟨i1, i2, y2, (i2 == (W64 ((y1.Nets.length : Int) - 1)))⟩ : Tl05Place)] : List Tl05Place)).bind fun x3 =>
   qb2 i1 y1 n x3 (W64 (i2 + 1))
  else
   some (x2, i2)

def qbW (a_0 : ql) : Nat → (List Tl05Place) → Int → Option ((List Tl05Place) × Int)
 | 0, _, _ => none
 | n + 1, x4, i3 =>
  bif decide (i3 < (a_0.Ports.length : Int)) then
   (idx a_0.Ports i3).bind fun y3 =>
   (idx a_0.Ports i3).bind fun y4 =>
   (appS x4 ([(⟨(-1), i3, y3.Net, (y4.Dir == 1)⟩ : Tl05Place)] : List Tl05Place)).bind fun x5 =>
   qbW a_0 n x5 (W64 (i3 + 1))
  else
   some (x4, i3)

def qbY (a_0 : ql) : Nat → (List Tl05Place) → Int → Option ((List Tl05Place) × Int)
 | 0, _, _ => none
 | n + 1, x1, i1 =>
  bif decide (i1 < (a_0.Instances.length : Int)) then
   (idx a_0.Instances i1).bind fun y1 =>
   (qb2 i1 y1 n x1 0).bind fun o => match o with
   | (x2, _) =>
    qbY a_0 n x2 (W64 (i1 + 1))
  else
   some (x1, i1)

def qc0 (n : Nat) (a_0 : ql) : Option (List Tl05Place) :=
 (qbY a_0 n ([] : List Tl05Place) 0).bind fun o => match o with
 | (x1, _) =>
  (qbW a_0 n x1 0).bind fun o => match o with
  | (x4, _) =>
   some x4

theorem qeO {n : Nat} {w : World} {a_0 : ql} {cs1 : List Value} (ha1 : GoT.R w (old w) a_0 cs1) {r : (List Tl05Place)} (hF : qc0 n a_0 = some r) : RetV Tryz.prog 124 [GoT.v ql cs1] w r := by
 obtain ⟨p1, k1, p2, k2, p3, k3, rfl, s1, s2, s3⟩ := qaz ha1
 refine qf Tryz.func124 rfl (m := 69) rfl rfl (fun h => ?_)
 rw [qc0] at hF
 refine zSR (qP h rfl rfl ?_)
 intro w1 bb1 h
 refine zp1 rfl (zNSR (qaN qc [] _ ([] : List Tl05Place) h rfl rfl rfl rfl rfl rfl rfl rfl rfl trivial rfl ?_))
 intro w2 p4 S1 h
 refine zp1 rfl (zNSSR (zp1 rfl (qb ?_)))
 obtain ⟨o1, hF, hK1⟩ := qd hF
 refine qA (qW [(1, _), (3, _), (4, _)] ⟨rfl, rfl, rfl, trivial⟩ ?_)
 refine qG (fun m e w' => ∃ (S2 : Nat → Prop) (p5 : Option Addr) (ln1 : Nat) (k4 : Nat) (x1 : (List Tl05Place)) (i1 : Int), qbY a_0 m x1 i1 = some o1 ∧ e = [(1, .pointer (some ⟨bb1, 0, none⟩)), (3, .slice p5 ln1 k4), (4, .int .i64 i1)] ∧ SH w w' [Ch.own S2 (x1 : List Tl05Place) [.slice p5 ln1 k4], Ch.box bb1 [.slice p1 a_0.Instances.length k1, .slice p2 a_0.Nets.length k2, .slice p3 a_0.Ports.length k3] 47]) n ⟨_, _, _, _, _, _, hF, rfl, h⟩ ?_
 rintro m1 e1 w3 ⟨S2, p5, ln1, k4, x1, i1, hF, rfl, h⟩
 obtain rfl := (h.sl 0 rfl).2
 rcases m1 with _ | m1
 ·rw [qbY] at hF
  cases hF
 rw [qbY] at hF
 refine zSSR (zp2 rfl (zl 1 0 h rfl (zp2 rfl (qb ?_))))
 refine qp rfl hF ?_ ?_ <;> intro hF
 ·refine zKSBSR (zp1 rfl (zl 1 0 h rfl (zp1 rfl ?_)))
  obtain ⟨y1, hy1, hF⟩ := qd hF
  have he1 := qg hy1
  obtain ⟨b1, o_1, q1, cs2, hp1, hq1, -, hr1, hc2⟩ := s1.at hy1
  obtain ⟨p6, k5, rfl, s4⟩ := qab hr1
  refine zxe hp1 hq1 he1 rfl (zp1 rfl (zc 2 (hc2.below h.below) rfl (zp1 rfl (zNSR (zp1 rfl (qb ?_))))))
  obtain ⟨o2, hF, hK2⟩ := qd hF
  refine qA (qW [(1, _), (3, _), (4, _), (5, _), (6, _)] ⟨rfl, rfl, rfl, rfl, rfl, trivial⟩ ?_)
  refine qG (fun m e w' => ∃ (S3 : Nat → Prop) (p7 : Option Addr) (ln2 : Nat) (k6 : Nat) (x2 : (List Tl05Place)) (i2 : Int), qb2 i1 y1 m x2 i2 = some o2 ∧ e = [(1, .pointer (some ⟨bb1, 0, none⟩)), (3, .slice p7 ln2 k6), (4, .int .i64 i1), (5, .slice p6 y1.Nets.length k5), (6, .int .i64 i2)] ∧ SH w w' [Ch.own S3 (x2 : List Tl05Place) [.slice p7 ln2 k6], Ch.box bb1 [.slice p1 a_0.Instances.length k1, .slice p2 a_0.Nets.length k2, .slice p3 a_0.Ports.length k3] 47]) m1 ⟨_, _, _, _, _, _, hF, rfl, h⟩ ?_
  rintro m2 e2 w4 ⟨S3, p7, ln2, k6, x2, i2, hF, rfl, h⟩
  obtain rfl := (h.sl 0 rfl).2
  rcases m2 with _ | m2
  ·rw [qb2] at hF
   cases hF
  rw [qb2] at hF
  refine zSSR (zp4 rfl (qb ?_))
  refine qp rfl hF ?_ ?_ <;> intro hF
  ·refine zKSBR (zp5 rfl ?_)
   obtain ⟨y2, hy2, hF⟩ := qd hF
   have he2 := qg hy2
   obtain ⟨b2, o_2, q2, cs3, hp2, hq2, -, hr2, hc4⟩ := s4.at hy2
   obtain rfl := hr2
   refine zxe hp2 hq2 he2 rfl (zc 0 (hc4.below h.below) rfl (zp5 rfl (r_v (qeM qc [0, 1, 2, 3] [.tmp 29, .tmp 30, .tmp 34, .tmp 39] rfl rfl rfl rfl rfl rfl rfl rfl) rfl (qaN qc [.tmp 40] _ ([(⟨i1, i2, y2, (i2 == (W64 ((y1.Nets.length : Int) - 1)))⟩ : Tl05Place)] : List Tl05Place) h rfl rfl rfl rfl rfl rfl rfl rfl rfl ⟨(qgB (⟨i1, i2, y2, (i2 == (W64 ((y1.Nets.length : Int) - 1)))⟩ : Tl05Place)), trivial⟩ rfl ?_))))
   intro w5 p8 S4 h
   obtain ⟨x3, hx1, hF⟩ := qd hF
   obtain ⟨g1, hx1⟩ := qbm hx1
   refine qeC qc 1 h rfl (h.sl 0 rfl).1 (h.sl 0 rfl).2 rfl rfl rfl rfl rfl rfl rfl rfl rfl g1 hx1 rfl ?_
   intro w6 p9 k7 S5 h
   refine zp1 rfl (zNER (zp3 rfl (qb ?_)))
   replace h := h.pick [1, 2] rfl
   exact qy m2 [(1, _), (3, _), (4, _), (5, _), (6, _)] (Nat.lt_succ_self m2) ⟨rfl, rfl, rfl, rfl, rfl, trivial⟩ ⟨_, _, _, _, _, _, hF, rfl, h⟩
  refine qF rfl ?_
  obtain rfl := qj hF; replace hF := hK2
  exact qfP (qB (zp3 rfl (qb (qy m1 [(1, _), (3, _), (4, _)] (Nat.lt_succ_self m1) ⟨rfl, rfl, rfl, trivial⟩ ⟨_, _, _, _, _, _, hF, rfl, h⟩))))
 refine qF rfl ?_
 obtain rfl := qj hF; replace hF := hK1
 refine zSSR (zp1 rfl (qb ?_))
 obtain ⟨o3, hF, hK3⟩ := qd hF
 refine qA (qW [(1, _), (3, _), (7, _)] ⟨rfl, rfl, rfl, trivial⟩ ?_)
 refine qG (fun m e w' => ∃ (S6 : Nat → Prop) (p10 : Option Addr) (ln3 : Nat) (k8 : Nat) (x4 : (List Tl05Place)) (i3 : Int), qbW a_0 m x4 i3 = some o3 ∧ e = [(1, .pointer (some ⟨bb1, 0, none⟩)), (3, .slice p10 ln3 k8), (7, .int .i64 i3)] ∧ SH w w' [Ch.own S6 (x4 : List Tl05Place) [.slice p10 ln3 k8], Ch.box bb1 [.slice p1 a_0.Instances.length k1, .slice p2 a_0.Nets.length k2, .slice p3 a_0.Ports.length k3] 47]) n ⟨_, _, _, _, _, _, hF, rfl, h⟩ ?_
 rintro m3 e3 w7 ⟨S6, p10, ln3, k8, x4, i3, hF, rfl, h⟩
 obtain rfl := (h.sl 0 rfl).2
 rcases m3 with _ | m3
 ·rw [qbW] at hF
  cases hF
 rw [qbW] at hF
 refine zSSR (zp2 rfl (zl 1 2 h rfl (zp2 rfl (qb ?_))))
 refine qp rfl hF ?_ ?_ <;> intro hF
 ·refine zKSB ?_
  refine qfO [] (fun w' => SH w w' [Ch.box bb1 [.slice p1 a_0.Instances.length k1, .slice p2 a_0.Nets.length k2, .slice p3 a_0.Ports.length k3] 47]) rfl 19 rfl #[ff, ff, ff, ff, ff, ff, ff, ff, ff, ff, ff, ff, ff, ff, ff, ff, ff, ff, ff] (by kernel_rfl) (fun w8 hb => ?_)
  replace h := h.ext hb
  clear hb
  refine qk 0 rfl #[tt, ff, ff, ff, ff, ff, ff, ff, ff, ff, ff, ff, ff, ff, ff, ff, ff, ff, ff] (by kernel_rfl) (by kernel_rfl) (fun w' hw => v_p qc rfl w') (h.pick [1] rfl) rfl ?_
  refine qk 1 rfl #[tt, tt, ff, ff, ff, ff, ff, ff, ff, ff, ff, ff, ff, ff, ff, ff, ff, ff, ff] (by kernel_rfl) (by kernel_rfl) (fun w' hw => v_p qc rfl w') (h.pick [1] rfl) rfl ?_
  refine qk 2 rfl #[tt, tt, tt, ff, ff, ff, ff, ff, ff, ff, ff, ff, ff, ff, ff, ff, ff, ff, ff] (by kernel_rfl) (by kernel_rfl) (fun w' hw => v_p qc rfl w') (h.pick [1] rfl) rfl ?_
  refine qk 3 rfl #[tt, tt, tt, tt, ff, ff, ff, ff, ff, ff, ff, ff, ff, ff, ff, ff, ff, ff, ff] (by kernel_rfl) (by kernel_rfl) (fun w' hw => qbE qc (hw.box 0 rfl) (j := 2) rfl rfl rfl) (h.pick [1] rfl) rfl ?_
  refine qk 4 rfl #[tt, tt, tt, tt, tt, ff, ff, ff, ff, ff, ff, ff, ff, ff, ff, ff, ff, ff, ff] (by kernel_rfl) (by kernel_rfl) (fun w' hw => v_p qc rfl w') (h.pick [1] rfl) rfl ?_
  obtain ⟨y3, hy3, hF⟩ := qd hF
  have he3 := qg hy3
  obtain ⟨b3, o_3, q3, cs4, hp3, hq3, -, hr3, hc6⟩ := s3.at hy3
  obtain rfl := qbz hr3
  refine qk 5 rfl #[tt, tt, tt, tt, tt, tt, ff, ff, ff, ff, ff, ff, ff, ff, ff, ff, ff, ff, ff] (by kernel_rfl) (by kernel_rfl) (fun w' hw => qfA qc hp3 hq3 ⟨he3.1, he3.2.1⟩ rfl rfl rfl rfl rfl rfl) (h.pick [1] rfl) rfl ?_
  refine qk 6 rfl #[tt, tt, tt, tt, tt, tt, tt, ff, ff, ff, ff, ff, ff, ff, ff, ff, ff, ff, ff] (by kernel_rfl) (by kernel_rfl) (fun w' hw => v_p qc rfl w') (h.pick [1] rfl) rfl ?_
  refine qk 7 rfl #[tt, tt, tt, tt, tt, tt, tt, tt, ff, ff, ff, ff, ff, ff, ff, ff, ff, ff, ff] (by kernel_rfl) (by kernel_rfl) (fun w' hw => qbE qc (hc6.below hw.below) (j := 2) rfl rfl rfl) (h.pick [1] rfl) rfl ?_
  refine qk 8 rfl #[tt, tt, tt, tt, tt, tt, tt, tt, tt, ff, ff, ff, ff, ff, ff, ff, ff, ff, ff] (by kernel_rfl) (by kernel_rfl) (fun w' hw => v_p qc rfl w') (h.pick [1] rfl) rfl ?_
  refine qk 9 rfl #[tt, tt, tt, tt, tt, tt, tt, tt, tt, tt, ff, ff, ff, ff, ff, ff, ff, ff, ff] (by kernel_rfl) (by kernel_rfl) (fun w' hw => qbE qc (hw.box 0 rfl) (j := 2) rfl rfl rfl) (h.pick [1] rfl) rfl ?_
  refine qk 10 rfl #[tt, tt, tt, tt, tt, tt, tt, tt, tt, tt, tt, ff, ff, ff, ff, ff, ff, ff, ff] (by kernel_rfl) (by kernel_rfl) (fun w' hw => v_p qc rfl w') (h.pick [1] rfl) rfl ?_
  obtain ⟨y4, hy4, hF⟩ := qd hF
  have he4 := qg hy4
  obtain ⟨b4, o_4, q4, cs5, hp4, hq4, -, hr4, hc7⟩ := s3.at hy4
  obtain rfl := qbz hr4
  refine qk 11 rfl #[tt, tt, tt, tt, tt, tt, tt, tt, tt, tt, tt, tt, ff, ff, ff, ff, ff, ff, ff] (by kernel_rfl) (by kernel_rfl) (fun w' hw => qfA qc hp4 hq4 ⟨he4.1, he4.2.1⟩ rfl rfl rfl rfl rfl rfl) (h.pick [1] rfl) rfl ?_
  refine qk 12 rfl #[tt, tt, tt, tt, tt, tt, tt, tt, tt, tt, tt, tt, tt, ff, ff, ff, ff, ff, ff] (by kernel_rfl) (by kernel_rfl) (fun w' hw => v_p qc rfl w') (h.pick [1] rfl) rfl ?_
  refine qk 13 rfl #[tt, tt, tt, tt, tt, tt, tt, tt, tt, tt, tt, tt, tt, tt, ff, ff, ff, ff, ff] (by kernel_rfl) (by kernel_rfl) (fun w' hw => qbE qc (hc7.below hw.below) (j := 1) rfl rfl rfl) (h.pick [1] rfl) rfl ?_
  refine qk 14 rfl #[tt, tt, tt, tt, tt, tt, tt, tt, tt, tt, tt, tt, tt, tt, tt, ff, ff, ff, ff] (by kernel_rfl) (by kernel_rfl) (fun w' hw => v_p qc rfl w') (h.pick [1] rfl) rfl ?_
  refine qk 15 rfl #[tt, tt, tt, tt, tt, tt, tt, tt, tt, tt, tt, tt, tt, tt, tt, tt, ff, ff, ff] (by kernel_rfl) (by kernel_rfl) (fun w' hw => qeM qc [0, 1, 2, 3] [.const (.int .i64 (-1)), .tmp 51, .tmp 57, .tmp 64] rfl rfl rfl rfl rfl rfl rfl rfl) (h.pick [1] rfl) rfl ?_
  refine qax 16 rfl #[tt, tt, tt, tt, tt, tt, tt, tt, tt, tt, tt, tt, tt, tt, tt, tt, tt, ff, ff] (by kernel_rfl) (by kernel_rfl) ?_
  refine qaN qc [.tmp 65] _ ([(⟨(-1), i3, y3.Net, (y4.Dir == 1)⟩ : Tl05Place)] : List Tl05Place) h rfl rfl rfl rfl rfl rfl rfl rfl rfl ⟨(qgB (⟨(-1), i3, y3.Net, (y4.Dir == 1)⟩ : Tl05Place)), trivial⟩ rfl ?_
  intro w9 p11 S7 h
  refine qao (fun _ => (h.pick [2] rfl)) ?_
  refine qax 17 rfl #[tt, tt, tt, tt, tt, tt, tt, tt, tt, tt, tt, tt, tt, tt, tt, tt, tt, tt, ff] (by kernel_rfl) (by kernel_rfl) ?_
  obtain ⟨x5, hx2, hF⟩ := qd hF
  obtain ⟨g2, hx2⟩ := qbm hx2
  refine qeC qc 1 h rfl (h.sl 0 rfl).1 (h.sl 0 rfl).2 rfl rfl rfl rfl rfl rfl rfl rfl rfl g2 hx2 rfl ?_
  intro w10 p12 k9 S8 h
  refine qao (fun _ => (h.pick [2] rfl)) ?_
  refine qk 18 rfl #[tt, tt, tt, tt, tt, tt, tt, tt, tt, tt, tt, tt, tt, tt, tt, tt, tt, tt, tt] (by kernel_rfl) (by kernel_rfl) (fun w' hw => v_p qc rfl w') (h.pick [2] rfl) rfl ?_
  refine qdn (by kernel_rfl) ?_
  refine qfP (qB (zp3 rfl (qb ?_)))
  replace h := h.pick [1, 2] rfl
  exact qy m3 [(1, _), (3, _), (7, _)] (Nat.lt_succ_self m3) ⟨rfl, rfl, rfl, trivial⟩ ⟨_, _, _, _, _, _, hF, rfl, h⟩
 refine qF rfl ?_
 obtain rfl := qj hF; replace hF := hK3
 refine zSR (zp2 rfl (qb ?_))
 obtain rfl := qj hF
 exact qad qc (ρ := (List Tl05Place)) [GoT.v (List Tl05Place) [.slice p10 x4.length k8]] h ⟨rfl, trivial⟩ (PV.done h (qai (qaB 0 h rfl)))

def qbM (net : Int) (r1 : (List Tl05Place)) : Nat → (List Int) → Int → Option ((List Int) × Int)
 | 0, _, _ => none
 | n + 1, x1, i1 =>
  bif decide (i1 < (r1.length : Int)) then
   (
    (idx r1 i1).bind fun y1 =>
    bif (y1.net == net) then
     (idx r1 i1).bind fun y2 =>
     some (!y2.drives)
    else
     some false).bind fun b1 =>
   bif b1 then
    (appS x1 ([i1] : List Int)).bind fun x2 =>
    qbM net r1 n x2 (W64 (i1 + 1))
   else
    qbM net r1 n x1 (W64 (i1 + 1))
  else
   some (x1, i1)

def qfL (n : Nat) (d : ql) (net : Int) : Option (List Int) :=
 (qc0 n d).bind fun r1 =>
 (qbM net r1 n ([] : List Int) 0).bind fun o => match o with
 | (x1, _) =>
  some x1

theorem qje {n : Nat} {w : World} {d : ql} {net : Int} {cs1 : List Value} (ha1 : GoT.R w (old w) d cs1) {r : (List Int)} (hF : qfL n d net = some r) : RetV Tryz.prog 138 [GoT.v ql cs1, .int .i64 net] w r := by
 obtain ⟨p1, k1, p2, k2, p3, k3, rfl, s1, s2, s3⟩ := qaz ha1
 refine qf Tryz.func138 rfl (m := 37) rfl rfl (fun h => ?_)
 rw [qfL] at hF
 refine zSR (qP h rfl rfl ?_)
 intro w1 bb1 h
 refine zp1 rfl (zNSR (qaN qc [] _ ([] : List Int) h rfl rfl rfl rfl rfl rfl rfl rfl rfl trivial rfl ?_))
 intro w2 p4 S1 h
 refine zp1 rfl (zNSR (zl 1 0 h rfl ?_))
 obtain ⟨r1, hr1, hF⟩ := qd hF
 refine qap r1 h call124 (qeO (h.old ha1) hr1) rfl rfl rfl rfl ?_
 intro w3 S2 p5 k4 h
 refine zp1 rfl (zNSSR (zp1 rfl (qb ?_)))
 obtain ⟨o1, hF, hK1⟩ := qd hF
 refine qA ?_
 replace h := h.pick [0, 1] rfl
 refine qW [(1, _), (5, _), (6, _), (7, _)] ⟨rfl, rfl, rfl, rfl, trivial⟩ ?_
 refine qG (fun m e w' => ∃ (S3 : Nat → Prop) (p6 : Option Addr) (ln1 : Nat) (k5 : Nat) (x1 : (List Int)) (i1 : Int), qbM net r1 m x1 i1 = some o1 ∧ e = [(1, .int .i64 net), (5, .slice p6 ln1 k5), (6, .slice p5 r1.length k4), (7, .int .i64 i1)] ∧ SH w w' [Ch.own S2 (r1 : List Tl05Place) [.slice p5 r1.length k4], Ch.own S3 (x1 : List Int) [.slice p6 ln1 k5]]) n ⟨_, _, _, _, _, _, hF, rfl, h⟩ ?_
 rintro m1 e1 w4 ⟨S3, p6, ln1, k5, x1, i1, hF, rfl, h⟩
 obtain rfl := (h.sl 1 rfl).2
 rcases m1 with _ | m1
 ·rw [qbM] at hF
  cases hF
 rw [qbM] at hF
 refine zSSR (zp4 rfl (qb ?_))
 refine qp rfl hF ?_ ?_ <;> intro hF
 ·refine zKSB (qbl ?_)
  obtain ⟨KF1, hKF1, o2, hF, hK2⟩ := bindE hF
  refine qdR (fun e w' => ∃ (b1 : Bool), KF1 b1 = some o1 ∧ e = [(1, .int .i64 net), (5, .slice p6 x1.length k5), (6, .slice p5 r1.length k4), (7, .int .i64 i1), (31, .bool b1)] ∧ SH w w' [Ch.own S2 (r1 : List Tl05Place) [.slice p5 r1.length k4], Ch.own S3 (x1 : List Int) [.slice p6 x1.length k5]]) ?_ ?_
  ·refine qB (zp2 rfl ?_)
   obtain ⟨y1, hy1, hF⟩ := qd hF
   have he1 := qg hy1
   obtain ⟨b2, o_1, q1, cs2, hp1, hq1, -, hr2, hc3⟩ := (h.sl 0 rfl).1.at hy1
   obtain rfl := qcA hr2
   refine zx hp1 hq1 ⟨he1.1, qa8 he1.2.1 (h.sl 0 rfl).2⟩ rfl (zp1 rfl (zc 2 hc3 rfl (zp3 rfl ?_)))
   by_cases hc4 : (y1.net == net) = true
   ·replace hF := bifT hc4 hF
    refine qC hc4 (t := 24) rfl (qa rfl (zp1 rfl (qa rfl (zp1 rfl (qa rfl ?_)))))
    obtain ⟨y2, hy2, hF⟩ := qd hF
    have he2 := qg hy2
    obtain ⟨b3, o_2, q2, cs3, hp2, hq2, -, hr3, hc5⟩ := (h.sl 0 rfl).1.at hy2
    obtain rfl := qcA hr3
    refine zx hp2 hq2 ⟨he2.1, qa8 he2.2.1 (h.sl 0 rfl).2⟩ rfl (qa rfl (zp1 rfl (qa rfl (zc 3 hc5 rfl (qa rfl (zp2 rfl (qb ?_)))))))
    obtain rfl := qj hF
    exact qu [(1, _), (5, _), (6, _), (7, _), (31, _)] ⟨rfl, rfl, rfl, rfl, rfl, trivial⟩ ⟨_, hK2, rfl, h⟩
   replace hc4 := zb hc4
   replace hF := bifF hc4 hF
   refine qD hc4 (t := 24) rfl (zn5 rfl (zn1 rfl (zp1 rfl (qb ?_))))
   obtain rfl := qj hF
   exact qu [(1, _), (5, _), (6, _), (7, _), (31, _)] ⟨rfl, rfl, rfl, rfl, rfl, trivial⟩ ⟨_, hK2, rfl, h⟩
  rintro e2 w7 ⟨b1, hF, rfl, h⟩
  subst hKF1
  refine qp rfl hF ?_ ?_ <;> intro hF
  ·refine qB (zp2 rfl (qaN qc [.tmp 33] _ ([i1] : List Int) h rfl rfl rfl rfl rfl rfl rfl rfl rfl ⟨rfl, trivial⟩ rfl ?_))
   intro w5 p7 S4 h
   obtain ⟨x2, hx1, hF⟩ := qd hF
   obtain ⟨g1, hx1⟩ := qbm hx1
   refine qeC qc 2 h rfl (h.sl 0 rfl).1 (h.sl 0 rfl).2 rfl rfl rfl rfl rfl rfl rfl rfl rfl g1 hx1 rfl ?_
   intro w6 p8 k6 S5 h
   refine zp1 rfl (zNER (zp3 rfl (qb ?_)))
   replace h := h.pick [1, 2] rfl
   exact qy m1 [(1, _), (5, _), (6, _), (7, _)] (Nat.lt_succ_self m1) ⟨rfl, rfl, rfl, rfl, trivial⟩ ⟨_, _, _, _, _, _, hF, rfl, h⟩
  exact zKER (zp3 rfl (qb (qy m1 [(1, _), (5, _), (6, _), (7, _)] (Nat.lt_succ_self m1) ⟨rfl, rfl, rfl, rfl, trivial⟩ ⟨_, _, _, _, _, _, hF, rfl, h⟩)))
 refine qF rfl ?_
 obtain rfl := qj hF; replace hF := hK1
 refine zSR (zp2 rfl (qb ?_))
 obtain rfl := qj hF
 exact qad qc (ρ := (List Int)) [GoT.v (List Int) [.slice p6 x1.length k5]] h ⟨rfl, trivial⟩ (PV.done h (qai (qaB 1 h rfl)))

def qdc (b : qz) : Nat → Int → Option (Flow Bool Int)
 | 0, _ => none
 | n + 1, i1 =>
  bif decide (i1 < (b.Wires.length : Int)) then
   (idx b.Wires i1).bind fun y1 =>
   (qfL n (⟨b.Design.Instances, b.Design.Nets, b.Design.Ports⟩ : ql) i1).bind fun r1 =>
   (qh5 n y1 (r1.length : Int)).bind fun r2 =>
   bif (!r2) then
    some (.ret false)
   else
    qdc b n (W64 (i1 + 1))
  else
   some (.nxt i1)

def qfv (n : Nat) (b : qz) : Option Bool :=
 (
  (qfH n (⟨b.Library.Cells⟩ : qw) (⟨b.Design.Instances, b.Design.Nets, b.Design.Ports⟩ : ql)).bind fun r3 =>
  bif (!r3) then
   some true
  else
   some ((b.Wires.length : Int) != (b.Design.Nets.length : Int))).bind fun b1 =>
 bif b1 then
  some false
 else
  (qdc b n 0).bind fun o => match o with
  | .ret r => some r
  | .nxt _ =>
   some true

theorem qic {n : Nat} {w : World} {b : qz} {cs1 : List Value} (ha1 : GoT.R w (old w) b cs1) {r : Bool} (hF : qfv n b = some r) : RetV Tryz.prog 104 [GoT.v qz cs1] w r := by
 obtain ⟨p1, k1, p2, k2, p3, k3, p4, k4, p5, k5, rfl, s1, s2, s3, s4, s5⟩ := qat ha1
 refine qf Tryz.func104 rfl (m := 39) rfl rfl (fun h => ?_)
 rw [qfv] at hF
 refine zSR (qP h rfl rfl ?_)
 intro w1 bb1 h
 refine zp1 rfl (zNSS ?_)
 obtain ⟨KF1, hKF1, o2, hF, hK2⟩ := bindE hF
 refine qdR (fun e w' => ∃ (b1 : Bool), KF1 b1 = some r ∧ e = [(1, .pointer (some ⟨bb1, 0, none⟩)), (19, .bool b1)] ∧ SH w w' [Ch.box bb1 [.slice p1 b.Library.Cells.length k1, .slice p2 b.Design.Instances.length k2, .slice p3 b.Design.Nets.length k3, .slice p4 b.Design.Ports.length k4, .slice p5 b.Wires.length k5] 50]) ?_ ?_
 ·refine qB (zp1 rfl (zl 0 0 h rfl (zp1 rfl (zl 0 1 h rfl ?_))))
  obtain ⟨r3, hr4, hF⟩ := qd hF
  refine qm r3 h call136 (qi6 (qdx (⟨b.Library.Cells⟩ : qw) (h.oldS s1)) (qbf (⟨b.Design.Instances, b.Design.Nets, b.Design.Ports⟩ : ql) (h.oldS s2) (h.oldS s3) (h.oldS s4)) hr4) rfl rfl rfl rfl ?_
  intro w6 h
  refine zp2 rfl ?_
  by_cases hc5 : (!r3) = true
  ·replace hF := bifT hc5 hF
   refine qC hc5 (t := 10) rfl (zn5 rfl (zn3 rfl (zp1 rfl (qb ?_))))
   obtain rfl := qj hF
   exact qu [(1, _), (19, _)] ⟨rfl, rfl, trivial⟩ ⟨_, hK2, rfl, h⟩
  replace hc5 := zb hc5
  replace hF := bifF hc5 hF
  refine qD hc5 (t := 10) rfl (qa rfl (zp1 rfl (qa rfl (zl 0 4 h rfl (qa rfl (zp1 rfl (qa rfl (zp1 rfl (qa rfl (zp1 rfl (qa rfl ?_)))))))))))
  refine zl 0 2 h rfl (qa rfl (zp1 rfl (qa rfl (zp2 rfl (qb ?_)))))
  obtain rfl := qj hF
  exact qu [(1, _), (19, _)] ⟨rfl, rfl, trivial⟩ ⟨_, hK2, rfl, h⟩
 rintro e2 w7 ⟨b1, hF, rfl, h⟩
 subst hKF1
 refine qp rfl hF ?_ ?_ <;> intro hF
 ·exact zSR (zp1 rfl (qb (qx qc h hF ⟨rfl, trivial⟩)))
 refine zKSSR (zp1 rfl (qb ?_))
 obtain ⟨o1, hF, hK1⟩ := qd hF
 refine qA (qW [(1, _), (3, _)] ⟨rfl, rfl, trivial⟩ ?_)
 refine qG (fun m e w' => ∃ (i1 : Int), qdc b m i1 = some o1 ∧ e = [(1, .pointer (some ⟨bb1, 0, none⟩)), (3, .int .i64 i1)] ∧ SH w w' [Ch.box bb1 [.slice p1 b.Library.Cells.length k1, .slice p2 b.Design.Instances.length k2, .slice p3 b.Design.Nets.length k3, .slice p4 b.Design.Ports.length k4, .slice p5 b.Wires.length k5] 50]) n ⟨_, hF, rfl, h⟩ ?_
 rintro m1 e1 w2 ⟨i1, hF, rfl, h⟩
 rcases m1 with _ | m1
 ·rw [qdc] at hF
  cases hF
 rw [qdc] at hF
 refine zSSR (zp2 rfl (zl 0 4 h rfl (zp2 rfl (qb ?_))))
 refine qp rfl hF ?_ ?_ <;> intro hF
 ·refine zKSB (qbl ?_)
  refine qfO [] (fun w' => SH w w' [Ch.box bb1 [.slice p1 b.Library.Cells.length k1, .slice p2 b.Design.Instances.length k2, .slice p3 b.Design.Nets.length k3, .slice p4 b.Design.Ports.length k4, .slice p5 b.Wires.length k5] 50]) rfl 12 rfl #[ff, ff, ff, ff, ff, ff, ff, ff, ff, ff, ff, ff] (by kernel_rfl) (fun w3 hb => ?_)
  replace h := h.ext hb
  clear hb
  refine qk 0 rfl #[tt, ff, ff, ff, ff, ff, ff, ff, ff, ff, ff, ff] (by kernel_rfl) (by kernel_rfl) (fun w' hw => v_p qc rfl w') (h.pick [0] rfl) rfl ?_
  refine qk 1 rfl #[tt, tt, ff, ff, ff, ff, ff, ff, ff, ff, ff, ff] (by kernel_rfl) (by kernel_rfl) (fun w' hw => qbE qc (hw.box 0 rfl) (j := 4) rfl rfl rfl) (h.pick [0] rfl) rfl ?_
  refine qk 2 rfl #[tt, tt, tt, ff, ff, ff, ff, ff, ff, ff, ff, ff] (by kernel_rfl) (by kernel_rfl) (fun w' hw => v_p qc rfl w') (h.pick [0] rfl) rfl ?_
  obtain ⟨y1, hy1, hF⟩ := qd hF
  have he1 := qg hy1
  obtain ⟨b2, o_1, q1, cs2, hp1, hq1, -, hr1, hc3⟩ := s5.at hy1
  obtain ⟨p6, k6, p7, k7, p8, k8, p9, k9, rfl, s6, s7, s8, s9⟩ := qbU hr1
  refine qk 3 rfl #[tt, tt, tt, tt, ff, ff, ff, ff, ff, ff, ff, ff] (by kernel_rfl) (by kernel_rfl) (fun w' hw => qfA qc hp1 hq1 ⟨he1.1, he1.2.1⟩ rfl rfl rfl rfl rfl rfl) (h.pick [0] rfl) rfl ?_
  refine qk 4 rfl #[tt, tt, tt, tt, tt, ff, ff, ff, ff, ff, ff, ff] (by kernel_rfl) (by kernel_rfl) (fun w' hw => qbE qc (hc3.below hw.below) (j := 0) rfl rfl rfl) (h.pick [0] rfl) rfl ?_
  refine qk 5 rfl #[tt, tt, tt, tt, tt, tt, ff, ff, ff, ff, ff, ff] (by kernel_rfl) (by kernel_rfl) (fun w' hw => v_p qc rfl w') (h.pick [0] rfl) rfl ?_
  refine qk 6 rfl #[tt, tt, tt, tt, tt, tt, tt, ff, ff, ff, ff, ff] (by kernel_rfl) (by kernel_rfl) (fun w' hw => qbE qc (hw.box 0 rfl) (j := 1) rfl rfl rfl) (h.pick [0] rfl) rfl ?_
  refine qk 7 rfl #[tt, tt, tt, tt, tt, tt, tt, tt, ff, ff, ff, ff] (by kernel_rfl) (by kernel_rfl) (fun w' hw => v_p qc rfl w') (h.pick [0] rfl) rfl ?_
  refine qax 8 rfl #[tt, tt, tt, tt, tt, tt, tt, tt, tt, ff, ff, ff] (by kernel_rfl) (by kernel_rfl) ?_
  obtain ⟨r1, hr2, hF⟩ := qd hF
  refine qap r1 h call138 (qje (qbf (⟨b.Design.Instances, b.Design.Nets, b.Design.Ports⟩ : ql) (h.oldS s2) (h.oldS s3) (h.oldS s4)) hr2) rfl rfl rfl rfl ?_
  intro w4 S1 p10 k10 h
  refine qao (fun _ => (h.pick [1] rfl)) ?_
  refine qk 9 rfl #[tt, tt, tt, tt, tt, tt, tt, tt, tt, tt, ff, ff] (by kernel_rfl) (by kernel_rfl) (fun w' hw => v_p qc rfl w') (h.pick [1] rfl) rfl ?_
  refine qax 10 rfl #[tt, tt, tt, tt, tt, tt, tt, tt, tt, tt, tt, ff] (by kernel_rfl) (by kernel_rfl) ?_
  obtain ⟨r2, hr3, hF⟩ := qd hF
  refine qm r2 h call137 (qmy (qip y1 (h.oldS s6) (h.oldS s7) (h.oldS s8) (h.oldS s9)) hr3) rfl rfl rfl rfl ?_
  intro w5 h
  refine qao (fun _ => (h.pick [1] rfl)) ?_
  refine qk 11 rfl #[tt, tt, tt, tt, tt, tt, tt, tt, tt, tt, tt, tt] (by kernel_rfl) (by kernel_rfl) (fun w' hw => v_p qc rfl w') (h.pick [1] rfl) rfl ?_
  refine qdn (by kernel_rfl) ?_
  refine qp rfl hF ?_ ?_ <;> intro hF
  ·refine zSR (zp1 rfl (qb ?_))
   obtain rfl := qj hF; replace hF := hK1
   exact qx qc h hF ⟨rfl, trivial⟩
  refine zKER (zp3 rfl (qb ?_))
  replace h := h.pick [1] rfl
  exact qy m1 [(1, _), (3, _)] (Nat.lt_succ_self m1) ⟨rfl, rfl, trivial⟩ ⟨_, hF, rfl, h⟩
 refine qF rfl ?_
 obtain rfl := qj hF; replace hF := hK1
 exact zSR (zp1 rfl (qb (qx qc h hF ⟨rfl, trivial⟩)))

def qaY (_ : Nat) (x : Int) (low : Int) (high : Int) : Option Bool :=
 bif decide (x ≥ low) then
  some (decide (x ≤ high))
 else
  some false

theorem qaF {n : Nat} {w : World} {x : Int} {low : Int} {high : Int}  {r : Bool} (hF : qaY n x low high = some r) : RetV Tryz.prog 86 [.int .i64 x, .int .i64 low, .int .i64 high] w r := by
 refine qf Tryz.func86 rfl (m := 15) rfl rfl (fun h => ?_)
 rw [qaY] at hF
 refine zSR (zp1 rfl (zNSR (zp4 rfl ?_)))
 by_cases hc1 : (decide (x ≥ low)) = true
 ·replace hF := bifT hc1 hF
  exact qC hc1 (t := 10) rfl (qa rfl (zp1 rfl (qa rfl (zp1 rfl (qa rfl (zp3 rfl (qb (qx qc h hF ⟨rfl, trivial⟩))))))))
 replace hc1 := zb hc1
 replace hF := bifF hc1 hF
 exact qD hc1 (t := 10) rfl (zn3 rfl (zp2 rfl (qb (qx qc h hF ⟨rfl, trivial⟩))))

def qhw (_ : Nat) (s cutset : ByteArray) : Option ByteArray :=
 if s.size ≤ 9223372036854775807 ∧ cutset.size < 4294967281 ∧ cutset.data.toList.all (fun b => decide (b.toNat < 128)) = true then some ⟨(Lib.trimS s.data.toList cutset.data.toList).toArray⟩ else none

theorem qlY {n : Nat} {w : World} {s cutset : ByteArray} {r : ByteArray} (hF : qhw n s cutset = some r) : RetV Tryz.prog 228 [.string s, .string cutset] w r := by
 unfold qhw at hF
 split at hF
 ·rename_i hh
  obtain rfl := qj hF
  refine (Tryz.strings_Trim_any s cutset w hh.1 hh.2.1 hh.2.2).mono ?_
  rintro e w' ⟨rfl, hB⟩
  exact ⟨_, rfl, hB, [.string _], rfl, qsi _ _⟩
 cases hF

def qfN (_ : Nat) (s : ByteArray) (c : (IntK .u8)) : Option Int :=
 some (Lib.indexByte s.data.toList c.val.toNat.toUInt8)

theorem qjR {n : Nat} {w : World} {s : ByteArray} {c : (IntK .u8)} {r : Int} (hF : qfN n s c = some r) : RetV Tryz.prog 229 [.string s, .int .u8 c.val] w r := by
 obtain rfl := qj hF
 refine (Tryz.strings_IndexByte s c.val w).mono ?_
 rintro e w' ⟨rfl, rfl⟩
 exact ⟨_, rfl, Below.refl _ _, [.int .i64 _], rfl, qqS _ _⟩

def qgZ (n : Nat) (s : ByteArray) : Option Bool :=
 (qaY n (s.size : Int) 1 8).bind fun r1 =>
 bif r1 then
  (qhw n s (⟨#[97, 98, 99, 100, 101, 102, 103, 104, 105, 106, 107, 108, 109, 110, 111, 112, 113, 114, 115, 116, 117, 118, 119, 120, 121, 122, 48, 49, 50, 51, 52, 53, 54, 55, 56, 57]⟩ : ByteArray)).bind fun r2 =>
  bif (r2.toList == (⟨#[]⟩ : ByteArray).toList) then
   (atS s 0).bind fun y1 =>
   (qfN n (⟨#[97, 98, 99, 100, 101, 102, 103, 104, 105, 106, 107, 108, 109, 110, 111, 112, 113, 114, 115, 116, 117, 118, 119, 120, 121, 122]⟩ : ByteArray) (⟨y1⟩ : IntK .u8)).bind fun r3 =>
   some (decide (r3 ≥ 0))
  else
   some false
 else
  some false

theorem qj7 {n : Nat} {w : World} {s : ByteArray}  {r : Bool} (hF : qgZ n s = some r) : RetV Tryz.prog 218 [.string s] w r := by
 refine qf Tryz.func218 rfl (m := 17) rfl rfl (fun h => ?_)
 rw [qgZ] at hF
 refine zSR (zp1 rfl (zNSR (zp2 rfl ?_)))
 obtain ⟨r1, hr1, hF⟩ := qd hF
 refine qm r1 h call86 (qaF hr1) rfl rfl rfl rfl ?_
 intro w1 h
 refine zp1 rfl ?_
 by_cases hc1 : r1 = true
 ·replace hF := bifT hc1 hF
  refine qC hc1 (t := 6) rfl (qa rfl (zp1 rfl (qa rfl ?_)))
  obtain ⟨r2, hr2, hF⟩ := qd hF
  refine qrq r2 h call228 (qlY hr2) rfl rfl rfl rfl ?_
  intro w2 h
  refine qa rfl (zp3 rfl ?_)
  by_cases hc2 : (r2.toList == (⟨#[]⟩ : ByteArray).toList) = true
  ·replace hF := bifT hc2 hF
   refine qC hc2 (t := 11) rfl (qa rfl (zp1 rfl (qa rfl ?_)))
   obtain ⟨y1, hx1, hF⟩ := qd hF
   have g1 := qjK hx1
   refine r_v (qj5 qc g1 rfl rfl rfl rfl) rfl (qa rfl ?_)
   obtain ⟨r3, hr3, hF⟩ := qd hF
   refine qN r3 h call229 (qjR hr3) rfl rfl rfl rfl ?_
   intro w3 h
   exact qa rfl (zp3 rfl (qb (qx qc h hF ⟨rfl, trivial⟩)))
  replace hc2 := zb hc2
  replace hF := bifF hc2 hF
  exact qD hc2 (t := 11) rfl (zn4 rfl (zp2 rfl (qb (qx qc h hF ⟨rfl, trivial⟩))))
 replace hc1 := zb hc1
 replace hF := bifF hc1 hF
 refine qD hc1 (t := 6) rfl (zn3 rfl (zp2 rfl (zn4 rfl (zp2 rfl ?_))))
 exact qb (qx qc h hF ⟨rfl, trivial⟩)

def qbG (_ : Nat) (list : (List qaC)) : Option Int :=
 some (list.length : Int)

theorem qgQ {n : Nat} {w : World} {list : (List qaC)} {cs1 : List Value} (ha1 : GoT.R w (old w) list cs1) {r : Int} (hF : qbG n list = some r) : RetV Tryz.prog 192 [GoT.v (List qaC) cs1] w r := by
 obtain ⟨p1, k1, rfl, s1⟩ := ha1
 refine qf Tryz.func192 rfl (m := 5) rfl rfl (fun h => ?_)
 rw [qbG] at hF
 exact zSR (zp1 rfl (zNSR (zp3 rfl (qb (qar qc h hF ⟨rfl, trivial⟩)))))

def qbr (s : (List ByteArray)) (v : ByteArray) : Nat → Int → Option (Flow Int Int)
 | 0, _ => none
 | n + 1, i1 =>
  bif decide (i1 < (s.length : Int)) then
   (idx s i1).bind fun y1 =>
   bif (v.toList == y1.toList) then
    some (.ret i1)
   else
    qbr s v n (W64 (i1 + 1))
  else
   some (.nxt i1)

def qd4 (n : Nat) (s : (List ByteArray)) (v : ByteArray) : Option Int :=
 (qbr s v n 0).bind fun o => match o with
 | .ret r => some r
 | .nxt _ =>
  some (-1)

theorem qjl {n : Nat} {w : World} {s : (List ByteArray)} {v : ByteArray} {cs1 : List Value} (ha1 : GoT.R w (old w) s cs1) {r : Int} (hF : qd4 n s v = some r) : RetV Tryz.prog 233 [GoT.v (List ByteArray) cs1, .string v] w r := by
 obtain ⟨p1, k1, rfl, s1⟩ := ha1
 refine qf Tryz.func233 rfl (m := 19) rfl rfl (fun h => ?_)
 rw [qd4] at hF
 refine zSR (zp1 rfl (zNSSR (zp3 rfl (qb ?_))))
 obtain ⟨o1, hF, hK1⟩ := qd hF
 refine qA (qW [(0, _), (1, _), (7, _), (8, _)] ⟨rfl, rfl, rfl, rfl, trivial⟩ ?_)
 refine qG (fun m e w' => ∃ (i1 : Int), qbr s v m i1 = some o1 ∧ e = [(0, .slice p1 s.length k1), (1, .string v), (7, .int .i64 (s.length : Int)), (8, .int .i64 i1)] ∧ SH w w' []) n ⟨_, hF, rfl, h⟩ ?_
 rintro m1 e1 w1 ⟨i1, hF, rfl, h⟩
 rcases m1 with _ | m1
 ·rw [qbr] at hF
  cases hF
 rw [qbr] at hF
 refine zSR (zp1 rfl (zNS ?_))
 refine qp rfl hF ?_ ?_ <;> intro hF
 ·refine zKSBSR (zp2 rfl (zNSR (zp2 rfl ?_)))
  refine zp1 rfl ?_
  obtain ⟨y1, hy1, hF⟩ := qd hF
  have he1 := qg hy1
  obtain ⟨b1, o_1, q1, cs2, hp1, hq1, -, hr1, hc2⟩ := s1.at hy1
  obtain rfl := hr1
  refine zxe hp1 hq1 he1 rfl (zc 0 (hc2.below h.below) rfl (zp1 rfl (qb ?_)))
  refine qp rfl hF ?_ ?_ <;> intro hF
  ·refine zSR (zp2 rfl (qb ?_))
   obtain rfl := qj hF; replace hF := hK1
   exact qar qc h hF ⟨rfl, trivial⟩
  exact zKER (zp2 rfl (qb (qy m1 [(0, _), (1, _), (7, _), (8, _)] (Nat.lt_succ_self m1) ⟨rfl, rfl, rfl, rfl, trivial⟩ ⟨_, hF, rfl, h⟩)))
 refine qF rfl ?_
 obtain rfl := qj hF; replace hF := hK1
 exact zSR (zp1 rfl (qb (qar qc h hF ⟨rfl, trivial⟩)))

def qcX (n : Nat) (s : (List ByteArray)) (v : ByteArray) : Option Bool :=
 (qd4 n s v).bind fun r1 =>
 some (decide (r1 ≥ 0))

theorem qiJ {n : Nat} {w : World} {s : (List ByteArray)} {v : ByteArray} {cs1 : List Value} (ha1 : GoT.R w (old w) s cs1) {r : Bool} (hF : qcX n s v = some r) : RetV Tryz.prog 222 [GoT.v (List ByteArray) cs1, .string v] w r := by
 obtain ⟨p1, k1, rfl, s1⟩ := ha1
 refine qf Tryz.func222 rfl (m := 9) rfl rfl (fun h => ?_)
 rw [qcX] at hF
 refine zSR (zp1 rfl (zNSR (zp2 rfl ?_)))
 obtain ⟨r1, hr1, hF⟩ := qd hF
 refine qN r1 h call233 (qjl ⟨_, _, rfl, (h.oldS s1)⟩ hr1) rfl rfl rfl rfl ?_
 intro w1 h
 exact zp2 rfl (qb (qx qc h hF ⟨rfl, trivial⟩))

def qcN (list : (List ByteArray)) : Nat → Int → Option (Flow Bool Int)
 | 0, _ => none
 | n + 1, i1 =>
  bif decide (i1 < (list.length : Int)) then
   (idx list i1).bind fun y1 =>
   (qgZ n y1).bind fun r1 =>
   bif (!r1) then
    some (.ret false)
   else
    (subS list 0 i1).bind fun x1 =>
    (qcX n x1 y1).bind fun r2 =>
    bif r2 then
     some (.ret false)
    else
     qcN list n (W64 (i1 + 1))
  else
   some (.nxt i1)

def qdv (n : Nat) (list : (List ByteArray)) : Option Bool :=
 (qcN list n 0).bind fun o => match o with
 | .ret r => some r
 | .nxt _ =>
  some true

theorem qfe {n : Nat} {w : World} {list : (List ByteArray)} {cs1 : List Value} (ha1 : GoT.R w (old w) list cs1) {r : Bool} (hF : qdv n list = some r) : RetV Tryz.prog 205 [GoT.v (List ByteArray) cs1] w r := by
 obtain ⟨p1, k1, rfl, s1⟩ := ha1
 refine qf Tryz.func205 rfl (m := 23) rfl rfl (fun h => ?_)
 rw [qdv] at hF
 refine zSR (zp1 rfl (zNSSR (zp3 rfl (qb ?_))))
 obtain ⟨o1, hF, hK1⟩ := qd hF
 refine qA (qW [(0, _), (5, _), (6, _), (7, _)] ⟨rfl, rfl, rfl, rfl, trivial⟩ ?_)
 refine qG (fun m e w' => ∃ (i1 : Int), qcN list m i1 = some o1 ∧ e = [(0, .slice p1 list.length k1), (5, .slice p1 list.length k1), (6, .int .i64 (list.length : Int)), (7, .int .i64 i1)] ∧ SH w w' []) n ⟨_, hF, rfl, h⟩ ?_
 rintro m1 e1 w1 ⟨i1, hF, rfl, h⟩
 rcases m1 with _ | m1
 ·rw [qcN] at hF
  cases hF
 rw [qcN] at hF
 refine zSR (zp1 rfl (zNS ?_))
 refine qp rfl hF ?_ ?_ <;> intro hF
 ·refine zKSBSR (zp1 rfl ?_)
  obtain ⟨y1, hy1, hF⟩ := qd hF
  have he1 := qg hy1
  obtain ⟨b1, o_1, q1, cs2, hp1, hq1, -, hr1, hc2⟩ := s1.at hy1
  obtain rfl := hr1
  refine zxe hp1 hq1 he1 rfl (zc 0 (hc2.below h.below) rfl (zp2 rfl (zNSR (zp1 rfl ?_))))
  obtain ⟨r1, hr2, hF⟩ := qd hF
  refine qm r1 h call218 (qj7 hr2) rfl rfl rfl rfl ?_
  intro w2 h
  refine zp2 rfl ?_
  by_cases hc3 : (!r1) = true
  ·replace hF := bifT hc3 hF
   refine qC hc3 (t := 15) rfl (zn5 rfl (zp1 rfl (qb (qez rfl rfl (zSR (zp1 rfl ?_))))))
   refine qb ?_
   obtain rfl := qj hF; replace hF := hK1
   exact qx qc h hF ⟨rfl, trivial⟩
  replace hc3 := zb hc3
  replace hF := bifF hc3 hF
  refine qD hc3 (t := 15) rfl (qa rfl (zp1 rfl (qa rfl (zp1 rfl (qa rfl ?_)))))
  obtain ⟨x1, hx1, hF⟩ := qd hF
  obtain ⟨p2, k2, hp2, hk1, hl1, g1⟩ := qoR (h.oldS s1) hx1
  refine r_v (qmh qc rfl rfl rfl (qpg g1 rfl) hp2 hk1 hl1 rfl rfl rfl rfl) rfl ?_
  have s2 := qpo s1 hx1 hp2 hk1
  refine qa rfl (zp1 rfl (qa rfl ?_))
  obtain ⟨r2, hr3, hF⟩ := qd hF
  refine qm r2 h call222 (qiJ ⟨_, _, rfl, (h.oldS s2)⟩ hr3) rfl rfl rfl rfl ?_
  intro w3 h
  refine zp1 rfl (qb ?_)
  refine qp rfl hF ?_ ?_ <;> intro hF
  ·refine zSR (zp1 rfl (qb ?_))
   obtain rfl := qj hF; replace hF := hK1
   exact qx qc h hF ⟨rfl, trivial⟩
  exact zKER (zp2 rfl (qb (qy m1 [(0, _), (5, _), (6, _), (7, _)] (Nat.lt_succ_self m1) ⟨rfl, rfl, rfl, rfl, trivial⟩ ⟨_, hF, rfl, h⟩)))
 refine qF rfl ?_
 obtain rfl := qj hF; replace hF := hK1
 exact zSR (zp1 rfl (qb (qx qc h hF ⟨rfl, trivial⟩)))

def qcc (list : (List qaC)) : Nat → (List ByteArray) → Int → Option (Flow Bool ((List ByteArray) × Int))
 | 0, _, _ => none
 | n + 1, x1, i1 =>
  bif decide (i1 < (list.length : Int)) then
   (idx list i1).bind fun y1 =>
   (appS x1 ([y1.Name] : List ByteArray)).bind fun x2 =>
   bif (i1 == (W64 ((list.length : Int) - 1))) then
    bif (y1.Dir != 2) then
     some (.ret false)
    else
     bif (y1.Cap != 0) then
      some (.ret false)
     else
      bif y1.Clock then
       some (.ret false)
      else
       qcc list n x2 (W64 (i1 + 1))
   else
    bif (y1.Dir != 1) then
     some (.ret false)
    else
     (qaY n y1.Cap 0 500).bind fun r1 =>
     bif (!r1) then
      some (.ret false)
     else
      qcc list n x2 (W64 (i1 + 1))
  else
   some (.nxt (x1, i1))

def qhs (n : Nat) (list : (List qaC)) : Option Bool :=
 (qcc list n ([] : List ByteArray) 0).bind fun o => match o with
 | .ret r => some r
 | .nxt (x1, _) =>
  (qbG n list).bind fun r2 =>
  (qaY n r2 2 5).bind fun r3 =>
  bif r3 then
   (qdv n x1).bind fun r4 =>
   some r4
  else
   some false

theorem qlG {n : Nat} {w : World} {list : (List qaC)} {cs1 : List Value} (ha1 : GoT.R w (old w) list cs1) {r : Bool} (hF : qhs n list = some r) : RetV Tryz.prog 219 [GoT.v (List qaC) cs1] w r := by
 obtain ⟨p1, k1, rfl, s1⟩ := ha1
 refine qf Tryz.func219 rfl (m := 52) rfl rfl (fun h => ?_)
 rw [qhs] at hF
 refine zSR (zp1 rfl (zNSR (zp1 rfl (zNSSR (zp1 rfl ?_)))))
 refine zp2 rfl (qb ?_)
 replace h := h.nil (α := ByteArray)
 obtain ⟨o1, hF, hK1⟩ := qd hF
 refine qA (qW [(0, _), (3, _), (6, _), (7, _), (8, _)] ⟨rfl, rfl, rfl, rfl, rfl, trivial⟩ ?_)
 refine qG (fun m e w' => ∃ (S1 : Nat → Prop) (p2 : Option Addr) (ln1 : Nat) (k2 : Nat) (x1 : (List ByteArray)) (i1 : Int), qcc list m x1 i1 = some o1 ∧ e = [(0, .slice p1 list.length k1), (3, .slice p2 ln1 k2), (6, .slice p1 list.length k1), (7, .int .i64 (list.length : Int)), (8, .int .i64 i1)] ∧ SH w w' [Ch.own S1 (x1 : List ByteArray) [.slice p2 ln1 k2]]) n ⟨_, _, _, _, _, _, hF, rfl, h⟩ ?_
 rintro m1 e1 w1 ⟨S1, p2, ln1, k2, x1, i1, hF, rfl, h⟩
 obtain rfl := (h.sl 0 rfl).2
 rcases m1 with _ | m1
 ·rw [qcc] at hF
  cases hF
 rw [qcc] at hF
 refine zSR (zp1 rfl (zNS ?_))
 refine qp rfl hF ?_ ?_ <;> intro hF
 ·refine zKSBSR (zp1 rfl ?_)
  obtain ⟨y1, hy1, hF⟩ := qd hF
  have he1 := qg hy1
  obtain ⟨b1, o_1, q1, cs2, hp1, hq1, -, hr1, hc2⟩ := s1.at hy1
  obtain rfl := qbx hr1
  refine zxe hp1 hq1 he1 rfl (zc 0 (hc2.below h.below) rfl (qT qc h rfl rfl rfl ?_))
  intro w2 bb1 h
  refine zp1 rfl (zs 0 h rfl ?_)
  intro w3 h
  replace h : SH _ _ [Ch.box bb1 [.string y1.Name, .int .i64 y1.Dir, .int .i64 y1.Cap, .bool y1.Clock] 238, Ch.own S1 (x1 : List ByteArray) [.slice p2 x1.length k2]] := h
  refine zNSR (zp2 rfl (zl 0 0 h rfl (qaN qc [.tmp 15] _ ([y1.Name] : List ByteArray) h rfl rfl rfl rfl rfl rfl rfl rfl rfl ⟨rfl, trivial⟩ rfl ?_)))
  intro w4 p3 S2 h
  obtain ⟨x2, hx1, hF⟩ := qd hF
  obtain ⟨g1, hx1⟩ := qbm hx1
  refine qeC qc 2 h rfl (h.sl 0 rfl).1 (h.sl 0 rfl).2 rfl rfl rfl rfl rfl rfl rfl rfl rfl g1 hx1 rfl ?_
  intro w5 p4 k3 S3 h
  refine zp1 rfl (zNSR (zp5 rfl (qb ?_)))
  refine qp rfl hF ?_ ?_ <;> intro hF
  ·refine zSR (zp1 rfl (zl 1 1 h rfl (zp2 rfl ?_)))
   by_cases hc4 : (y1.Dir != 2) = true
   ·replace hF := bifT hc4 hF
    refine qC hc4 (t := 26) rfl (zn3 rfl (zp2 rfl (zn2 rfl (zp1 rfl (qb (qez rfl rfl (qbl ?_)))))))
    refine qB (zp1 rfl (qb ?_))
    obtain rfl := qj hF; replace hF := hK1
    exact qx qc h hF ⟨rfl, trivial⟩
   replace hc4 := zb hc4
   replace hF := bifF hc4 hF
   refine qD hc4 (t := 26) rfl (qa rfl (zp1 rfl (qa rfl (zl 1 2 h rfl (qa rfl (zp3 rfl ?_))))))
   by_cases hc5 : (y1.Cap != 0) = true
   ·replace hF := bifT hc5 hF
    refine qC hc5 (t := 31) rfl (zn2 rfl (zp1 rfl (qb (qez rfl rfl (zSR (zp1 rfl (qb ?_)))))))
    obtain rfl := qj hF; replace hF := hK1
    exact qx qc h hF ⟨rfl, trivial⟩
   replace hc5 := zb hc5
   replace hF := bifF hc5 hF
   refine qD hc5 (t := 31) rfl (qa rfl (zp1 rfl (qa rfl (zl 1 3 h rfl (zp1 rfl (qb ?_))))))
   refine qp rfl hF ?_ ?_ <;> intro hF
   ·refine zSR (zp1 rfl (qb ?_))
    obtain rfl := qj hF; replace hF := hK1
    exact qx qc h hF ⟨rfl, trivial⟩
   refine zKER (zp2 rfl (qb ?_))
   replace h := h.pick [2] rfl
   exact qy m1 [(0, _), (3, _), (6, _), (7, _), (8, _)] (Nat.lt_succ_self m1) ⟨rfl, rfl, rfl, rfl, rfl, trivial⟩ ⟨_, _, _, _, _, _, hF, rfl, h⟩
  refine zSR (zp1 rfl (zl 1 1 h rfl (zp2 rfl ?_)))
  by_cases hc7 : (y1.Dir != 1) = true
  ·replace hF := bifT hc7 hF
   refine qC hc7 (t := 38) rfl (zn4 rfl (zp1 rfl (qb (qez rfl rfl (zSR (zp1 rfl (qb ?_)))))))
   obtain rfl := qj hF; replace hF := hK1
   exact qx qc h hF ⟨rfl, trivial⟩
  replace hc7 := zb hc7
  replace hF := bifF hc7 hF
  refine qD hc7 (t := 38) rfl (qa rfl (zp1 rfl (qa rfl (zl 1 2 h rfl (qa rfl ?_)))))
  obtain ⟨r1, hr2, hF⟩ := qd hF
  refine qm r1 h call86 (qaF hr2) rfl rfl rfl rfl ?_
  intro w6 h
  refine qa rfl (zp2 rfl (qb ?_))
  refine qp rfl hF ?_ ?_ <;> intro hF
  ·refine zSR (zp1 rfl (qb ?_))
   obtain rfl := qj hF; replace hF := hK1
   exact qx qc h hF ⟨rfl, trivial⟩
  refine zKER (zp2 rfl (qb ?_))
  replace h := h.pick [2] rfl
  exact qy m1 [(0, _), (3, _), (6, _), (7, _), (8, _)] (Nat.lt_succ_self m1) ⟨rfl, rfl, rfl, rfl, rfl, trivial⟩ ⟨_, _, _, _, _, _, hF, rfl, h⟩
 refine qF rfl ?_
 obtain rfl := qj hF; replace hF := hK1
 refine zSR (zp1 rfl ?_)
 obtain ⟨r2, hr3, hF⟩ := qd hF
 refine qN r2 h call192 (qgQ ⟨_, _, rfl, (h.oldS s1)⟩ hr3) rfl rfl rfl rfl ?_
 intro w7 h
 obtain ⟨r3, hr4, hF⟩ := qd hF
 refine qm r3 h call86 (qaF hr4) rfl rfl rfl rfl ?_
 intro w8 h
 refine zp1 rfl ?_
 by_cases hc9 : r3 = true
 ·replace hF := bifT hc9 hF
  refine qC hc9 (t := 48) rfl (qa rfl (zp1 rfl (qa rfl ?_)))
  obtain ⟨r4, hr5, hF⟩ := qd hF
  refine qm r4 h call205 (qfe (h.own 0 rfl) hr5) rfl rfl rfl rfl ?_
  intro w9 h
  exact zp2 rfl (qb (qx qc h hF ⟨rfl, trivial⟩))
 replace hc9 := zb hc9
 replace hF := bifF hc9 hF
 exact qD hc9 (t := 48) rfl (zn2 rfl (zp2 rfl (qb (qx qc h hF ⟨rfl, trivial⟩))))

def qcj (n : Nat) (c : qE) : Option Int :=
 (qbG n c.Pins).bind fun r1 =>
 some (W64 (r1 - 1))

theorem qe5 {n : Nat} {w : World} {c : qE} {cs1 : List Value} (ha1 : GoT.R w (old w) c cs1) {r : Int} (hF : qcj n c = some r) : RetV Tryz.prog 163 [GoT.v qE cs1] w r := by
 obtain ⟨p1, k1, p2, k2, p3, k3, rfl, s1, s2, s3⟩ := qaa ha1
 refine qf Tryz.func163 rfl (m := 7) rfl rfl (fun h => ?_)
 rw [qcj] at hF
 refine zSR (qP h rfl rfl ?_)
 intro w1 bb1 h
 refine zp1 rfl (zNSR (zp1 rfl (zl 0 2 h rfl ?_)))
 obtain ⟨r1, hr1, hF⟩ := qd hF
 refine qN r1 h call192 (qgQ ⟨_, _, rfl, (h.oldS s1)⟩ hr1) rfl rfl rfl rfl ?_
 intro w2 h
 exact zp2 rfl (qb (qar qc h hF ⟨rfl, trivial⟩))

def qhg (_ : Nat) (kind : Int) : Option Bool :=
 bif (kind == 4) then
  some true
 else
  some (kind == 5)

theorem qlP {n : Nat} {w : World} {kind : Int}  {r : Bool} (hF : qhg n kind = some r) : RetV Tryz.prog 243 [.int .i64 kind] w r := by
 refine qf Tryz.func243 rfl (m := 9) rfl rfl (fun h => ?_)
 rw [qhg] at hF
 refine zSR (zp1 rfl (zNSR (zp3 rfl ?_)))
 by_cases hc1 : (kind == 4) = true
 ·replace hF := bifT hc1 hF
  exact qC hc1 (t := 5) rfl (zn2 rfl (zp2 rfl (qb (qx qc h hF ⟨rfl, trivial⟩))))
 replace hc1 := zb hc1
 replace hF := bifF hc1 hF
 exact qD hc1 (t := 5) rfl (qa rfl (zp1 rfl (qa rfl (zp3 rfl (qb (qx qc h hF ⟨rfl, trivial⟩))))))

def qe9 (n : Nat) (a_n : Int) (v0 : Int) (v1 : Int) : Option Bool :=
 (qaY n a_n v0 v1).bind fun r1 =>
 some (!r1)

theorem qkg {n : Nat} {w : World} {a_n : Int} {v0 : Int} {v1 : Int} {p1 : Option Addr} (ha1 : GoT.R w (old w) (some v0) [.pointer p1]) {p2 : Option Addr} (ha2 : GoT.R w (old w) (some v1) [.pointer p2]) {r : Bool} (hF : qe9 n a_n v0 v1 = some r) : RetV Tryz.prog 156 [.int .i64 a_n, .pointer p1, .pointer p2] w r := by
 obtain ⟨b1, o_1, cs1, rfl, -, hr1, hc1⟩ := PtR.get ha1 rfl
 obtain rfl := hr1
 obtain ⟨b2, o_2, cs2, rfl, -, hr2, hc2⟩ := PtR.get ha2 rfl
 obtain rfl := hr2
 refine qf Tryz.func156 rfl (m := 10) rfl rfl (fun h => ?_)
 rw [qe9] at hF
 refine zSR (zp1 rfl (zNSR (zp1 rfl (zc 0 (hc1.below h.below) rfl (zc 0 (hc2.below h.below) rfl ?_)))))
 obtain ⟨r1, hr3, hF⟩ := qd hF
 refine qm r1 h call86 (qaF hr3) rfl rfl rfl rfl ?_
 intro w1 h
 exact zp2 rfl (qb (qx qc h hF ⟨rfl, trivial⟩))

def qV (s : (List Int)) (f_0 : Int) (f_1 : Int) : Nat → Int → Option (Flow Int Int)
 | 0, _ => none
 | n + 1, i1 =>
  bif decide (i1 < (s.length : Int)) then
   (idx s i1).bind fun y1 =>
   (qe9 n y1 f_0 f_1).bind fun r1 =>
   bif r1 then
    some (.ret i1)
   else
    qV s f_0 f_1 n (W64 (i1 + 1))
  else
   some (.nxt i1)

def qaL (n : Nat) (s : (List Int)) (f_0 : Int) (f_1 : Int) : Option Int :=
 (qV s f_0 f_1 n 0).bind fun o => match o with
 | .ret r => some r
 | .nxt _ =>
  some (-1)

theorem qfk {n : Nat} {w : World} {s : (List Int)} {f_0 : Int} {f_1 : Int} {cs1 : List Value} (ha1 : GoT.R w (old w) s cs1) {p2 : Option Addr} (ha2 : GoT.R w (old w) (some f_0) [.pointer p2]) {p3 : Option Addr} (ha3 : GoT.R w (old w) (some f_1) [.pointer p3]) {r : Int} (hF : qaL n s f_0 f_1 = some r) : RetV Tryz.prog 190 [GoT.v (List Int) cs1, .func (.func 156) #[] #[.pointer p2, .pointer p3]] w r := by
 obtain ⟨p1, k1, rfl, s1⟩ := ha1
 obtain ⟨b1, o_1, cs2, rfl, -, hr1, hc1⟩ := PtR.get ha2 rfl
 obtain rfl := hr1
 obtain ⟨b2, o_2, cs3, rfl, -, hr2, hc2⟩ := PtR.get ha3 rfl
 obtain rfl := hr2
 refine qf Tryz.func190 rfl (m := 19) rfl rfl (fun h => ?_)
 rw [qaL] at hF
 refine zSR (zp1 rfl (zNSSR (zp3 rfl (qb ?_))))
 obtain ⟨o1, hF, hK1⟩ := qd hF
 refine qA (qW [(0, _), (1, _), (7, _), (8, _)] ⟨rfl, rfl, rfl, rfl, trivial⟩ ?_)
 refine qG (fun m e w' => ∃ (i1 : Int), qV s f_0 f_1 m i1 = some o1 ∧ e = [(0, .slice p1 s.length k1), (1, .func (.func 156) #[] #[.pointer (some ⟨b1, o_1, none⟩), .pointer (some ⟨b2, o_2, none⟩)]), (7, .int .i64 (s.length : Int)), (8, .int .i64 i1)] ∧ SH w w' []) n ⟨_, hF, rfl, h⟩ ?_
 rintro m1 e1 w1 ⟨i1, hF, rfl, h⟩
 rcases m1 with _ | m1
 ·rw [qV] at hF
  cases hF
 rw [qV] at hF
 refine zSR (zp1 rfl (zNS ?_))
 refine qp rfl hF ?_ ?_ <;> intro hF
 ·refine zKSBSR (zp2 rfl (zNSR (zp2 rfl ?_)))
  refine zp1 rfl ?_
  obtain ⟨y1, hy1, hF⟩ := qd hF
  have he1 := qg hy1
  obtain ⟨b3, o_3, q1, cs4, hp1, hq1, -, hr3, hc4⟩ := s1.at hy1
  obtain rfl := hr3
  refine zxe hp1 hq1 he1 rfl (zc 0 (hc4.below h.below) rfl ?_)
  obtain ⟨r1, hr4, hF⟩ := qd hF
  refine qm r1 h call156 (qkg (h.old ha2) (h.old ha3) hr4) rfl rfl rfl rfl ?_
  intro w2 h
  refine qb ?_
  refine qp rfl hF ?_ ?_ <;> intro hF
  ·refine zSR (zp2 rfl (qb ?_))
   obtain rfl := qj hF; replace hF := hK1
   exact qar qc h hF ⟨rfl, trivial⟩
  exact zKER (zp2 rfl (qb (qy m1 [(0, _), (1, _), (7, _), (8, _)] (Nat.lt_succ_self m1) ⟨rfl, rfl, rfl, rfl, trivial⟩ ⟨_, hF, rfl, h⟩)))
 refine qF rfl ?_
 obtain rfl := qj hF; replace hF := hK1
 exact zSR (zp1 rfl (qb (qar qc h hF ⟨rfl, trivial⟩)))

def qa2 (n : Nat) (s : (List Int)) (f_0 : Int) (f_1 : Int) : Option Bool :=
 (qaL n s f_0 f_1).bind fun r1 =>
 some (decide (r1 ≥ 0))

theorem qe4 {n : Nat} {w : World} {s : (List Int)} {f_0 : Int} {f_1 : Int} {cs1 : List Value} (ha1 : GoT.R w (old w) s cs1) {p2 : Option Addr} (ha2 : GoT.R w (old w) (some f_0) [.pointer p2]) {p3 : Option Addr} (ha3 : GoT.R w (old w) (some f_1) [.pointer p3]) {r : Bool} (hF : qa2 n s f_0 f_1 = some r) : RetV Tryz.prog 155 [GoT.v (List Int) cs1, .func (.func 156) #[] #[.pointer p2, .pointer p3]] w r := by
 obtain ⟨p1, k1, rfl, s1⟩ := ha1
 obtain ⟨b1, o_1, cs2, rfl, -, hr1, hc1⟩ := PtR.get ha2 rfl
 obtain rfl := hr1
 obtain ⟨b2, o_2, cs3, rfl, -, hr2, hc2⟩ := PtR.get ha3 rfl
 obtain rfl := hr2
 refine qf Tryz.func155 rfl (m := 9) rfl rfl (fun h => ?_)
 rw [qa2] at hF
 refine zSR (zp1 rfl (zNSR (zp2 rfl ?_)))
 obtain ⟨r1, hr3, hF⟩ := qd hF
 refine qN r1 h call190 (qfk ⟨_, _, rfl, (h.oldS s1)⟩ (h.old ha2) (h.old ha3) hr3) rfl rfl rfl rfl ?_
 intro w1 h
 exact zp2 rfl (qb (qx qc h hF ⟨rfl, trivial⟩))

def qby (n : Nat) (list : (List Int)) (low : Int) (high : Int) : Option Bool :=
 (qa2 n list low high).bind fun r1 =>
 some (!r1)

theorem qct {n : Nat} {w : World} {list : (List Int)} {low : Int} {high : Int} {cs1 : List Value} (ha1 : GoT.R w (old w) list cs1) {r : Bool} (hF : qby n list low high = some r) : RetV Tryz.prog 112 [GoT.v (List Int) cs1, .int .i64 low, .int .i64 high] w r := by
 obtain ⟨p1, k1, rfl, s1⟩ := ha1
 refine qf Tryz.func112 rfl (m := 11) rfl rfl (fun h => ?_)
 rw [qby] at hF
 refine zSR (qP h rfl rfl ?_)
 intro w1 bb1 h
 refine qP h rfl rfl ?_
 intro w2 bb2 h
 refine zp1 rfl (zNSR (zp2 rfl ?_))
 obtain ⟨r1, hr1, hF⟩ := qd hF
 refine qm r1 h call155 (qe4 ⟨_, _, rfl, (h.oldS s1)⟩ (qh8 (x := low) 1 h rfl rfl) (qh8 (x := high) 0 h rfl rfl) hr1) rfl rfl rfl rfl ?_
 intro w3 h
 exact zp2 rfl (qb (qx qc h hF ⟨rfl, trivial⟩))

def qan (_ : Nat) (list : (List Int)) : Option Int :=
 some (list.length : Int)

theorem qbo {n : Nat} {w : World} {list : (List Int)} {cs1 : List Value} (ha1 : GoT.R w (old w) list cs1) {r : Int} (hF : qan n list = some r) : RetV Tryz.prog 87 [GoT.v (List Int) cs1] w r := by
 obtain ⟨p1, k1, rfl, s1⟩ := ha1
 refine qf Tryz.func87 rfl (m := 5) rfl rfl (fun h => ?_)
 rw [qan] at hF
 exact zSR (zp1 rfl (zNSR (zp3 rfl (qb (qar qc h hF ⟨rfl, trivial⟩)))))

def qa6 (list : (List Int)) : Nat → Int → Option (Flow Bool Int)
 | 0, _ => none
 | n + 1, i1 =>
  bif decide (i1 < (list.length : Int)) then
   (idx list (W64 (i1 - 1))).bind fun y1 =>
   (idx list i1).bind fun y2 =>
   bif decide (y1 ≥ y2) then
    some (.ret false)
   else
    qa6 list n (W64 (i1 + 1))
  else
   some (.nxt i1)

def qc4 (n : Nat) (list : (List Int)) : Option Bool :=
 (qa6 list n 1).bind fun o => match o with
 | .ret r => some r
 | .nxt _ =>
  some true

theorem qf1 {n : Nat} {w : World} {list : (List Int)} {cs1 : List Value} (ha1 : GoT.R w (old w) list cs1) {r : Bool} (hF : qc4 n list = some r) : RetV Tryz.prog 154 [GoT.v (List Int) cs1] w r := by
 obtain ⟨p1, k1, rfl, s1⟩ := ha1
 refine qf Tryz.func154 rfl (m := 20) rfl rfl (fun h => ?_)
 rw [qc4] at hF
 refine zSR (zp1 rfl (zNSSR (zp1 rfl (qb ?_))))
 obtain ⟨o1, hF, hK1⟩ := qd hF
 refine qA (qW [(0, _), (3, _)] ⟨rfl, rfl, trivial⟩ ?_)
 refine qG (fun m e w' => ∃ (i1 : Int), qa6 list m i1 = some o1 ∧ e = [(0, .slice p1 list.length k1), (3, .int .i64 i1)] ∧ SH w w' []) n ⟨_, hF, rfl, h⟩ ?_
 rintro m1 e1 w1 ⟨i1, hF, rfl, h⟩
 rcases m1 with _ | m1
 ·rw [qa6] at hF
  cases hF
 rw [qa6] at hF
 refine zSSR (zp4 rfl (qb ?_))
 refine qp rfl hF ?_ ?_ <;> intro hF
 ·refine zKSB (qbl ?_)
  refine qb3 rfl (by kernel_rfl) ?_
  refine zd3 rfl ?_
  obtain ⟨y1, hy1, hF⟩ := qd hF
  have he1 := qg hy1
  obtain ⟨b1, o_1, q1, cs2, hp1, hq1, -, hr1, hc2⟩ := s1.at hy1
  obtain rfl := hr1
  refine zdxe hp1 hq1 he1 rfl ?_
  refine zdc 0 (hc2.below h.below) rfl ?_
  refine zd2 rfl ?_
  obtain ⟨y2, hy2, hF⟩ := qd hF
  have he2 := qg hy2
  obtain ⟨b2, o_2, q2, cs3, hp2, hq2, -, hr2, hc3⟩ := s1.at hy2
  obtain rfl := hr2
  refine zdxe hp2 hq2 he2 rfl ?_
  refine zdc 0 (hc3.below h.below) rfl ?_
  refine zd1 rfl ?_
  refine qaR (fun w2 hb => ?_)
  replace h := h.ext hb
  clear hb
  refine qp rfl hF ?_ ?_ <;> intro hF
  ·refine zSR (zp1 rfl (qb ?_))
   obtain rfl := qj hF; replace hF := hK1
   exact qx qc h hF ⟨rfl, trivial⟩
  exact zKER (zp3 rfl (qb (qy m1 [(0, _), (3, _)] (Nat.lt_succ_self m1) ⟨rfl, rfl, trivial⟩ ⟨_, hF, rfl, h⟩)))
 refine qF rfl ?_
 obtain rfl := qj hF; replace hF := hK1
 exact zSR (zp1 rfl (qb (qx qc h hF ⟨rfl, trivial⟩)))

def qgS (n : Nat) (list : (List Int)) : Option Bool :=
 (qan n list).bind fun r1 =>
 (qaY n r1 1 4).bind fun r2 =>
 bif r2 then
  (qby n list 0 100000).bind fun r3 =>
  bif r3 then
   (qc4 n list).bind fun r4 =>
   some r4
  else
   some false
 else
  some false

theorem qjN {n : Nat} {w : World} {list : (List Int)} {cs1 : List Value} (ha1 : GoT.R w (old w) list cs1) {r : Bool} (hF : qgS n list = some r) : RetV Tryz.prog 265 [GoT.v (List Int) cs1] w r := by
 obtain ⟨p1, k1, rfl, s1⟩ := ha1
 refine qf Tryz.func265 rfl (m := 14) rfl rfl (fun h => ?_)
 rw [qgS] at hF
 refine zSR (zp1 rfl (zNSR (zp1 rfl ?_)))
 obtain ⟨r1, hr1, hF⟩ := qd hF
 refine qN r1 h call87 (qbo ⟨_, _, rfl, (h.oldS s1)⟩ hr1) rfl rfl rfl rfl ?_
 intro w1 h
 obtain ⟨r2, hr2, hF⟩ := qd hF
 refine qm r2 h call86 (qaF hr2) rfl rfl rfl rfl ?_
 intro w2 h
 refine zp1 rfl ?_
 by_cases hc1 : r2 = true
 ·replace hF := bifT hc1 hF
  refine qC hc1 (t := 6) rfl (qa rfl (zp1 rfl (qa rfl ?_)))
  obtain ⟨r3, hr3, hF⟩ := qd hF
  refine qm r3 h call112 (qct ⟨_, _, rfl, (h.oldS s1)⟩ hr3) rfl rfl rfl rfl ?_
  intro w3 h
  refine zp2 rfl ?_
  by_cases hc2 : r3 = true
  ·replace hF := bifT hc2 hF
   refine qC hc2 (t := 10) rfl (qa rfl (zp1 rfl (qa rfl ?_)))
   obtain ⟨r4, hr4, hF⟩ := qd hF
   refine qm r4 h call154 (qf1 ⟨_, _, rfl, (h.oldS s1)⟩ hr4) rfl rfl rfl rfl ?_
   intro w4 h
   exact zp2 rfl (qb (qx qc h hF ⟨rfl, trivial⟩))
  replace hc2 := zb hc2
  replace hF := bifF hc2 hF
  exact qD hc2 (t := 10) rfl (zn2 rfl (zp2 rfl (qb (qx qc h hF ⟨rfl, trivial⟩))))
 replace hc1 := zb hc1
 replace hF := bifF hc1 hF
 exact qD hc1 (t := 6) rfl (zn2 rfl (zp2 rfl (zn2 rfl (zp2 rfl (qb (qx qc h hF ⟨rfl, trivial⟩))))))

end Go.Fw
