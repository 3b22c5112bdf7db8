/- By a program of mine (gen.py): for each function a plain function and the proof that the code computes it. -/
import Derived.Test.YthcphhbmdpepkaaGreatDoorA1

namespace Go.Fw
open Go Go.Proofs
open Go.RowKit (Below)
set_option maxRecDepth 100000
def qg4 (_ : Nat) (a : qaq) (b : qaq) : Option Bool :=
 bif (a.Name.toList != b.Name.toList) then
  some false
 else
  bif (a.Dir != b.Dir) then
   some false
  else
   bif (a.Cap != b.Cap) then
    some false
   else
    bif (!(a.Clock == b.Clock)) then
     some false
    else
     some true

theorem qlY {n : Nat} {w : World} {a : qaq} {b : qaq} {cs1 : List Value} (ha1 : GoT.R w (old w) a cs1) {cs2 : List Value} (ha2 : GoT.R w (old w) b cs2) {r : Bool} (hF : qg4 n a b = some r) : RetV Tryz.prog 175 [GoT.v qaq cs1, GoT.v qaq cs2] w r := by
 obtain rfl := qbq ha1
 obtain rfl := qbq ha2
 refine qe Tryz.func175 rfl (m := 25) rfl rfl (fun h => ?_)
 rw [qg4] at hF
 refine zSR (qM h rfl rfl ?_)
 intro w1 bb1 h
 refine qM h rfl rfl ?_
 intro w2 bb2 h
 refine zp1 rfl (zNSSR (zp1 rfl (zl 1 0 h rfl (zp1 rfl (zl 0 0 h rfl (zp1 rfl (qb ?_)))))))
 refine qq rfl hF ?_ ?_ <;> intro hF
 ·exact zSR (zp1 rfl (qb (qu qc h hF ⟨rfl, trivial⟩)))
 refine zKSSR (zp1 rfl (zl 1 1 h rfl (zp1 rfl (zl 0 1 h rfl (zp1 rfl (qb ?_))))))
 refine qq rfl hF ?_ ?_ <;> intro hF
 ·exact zSR (zp1 rfl (qb (qu qc h hF ⟨rfl, trivial⟩)))
 refine zKSSR (zp1 rfl (zl 1 2 h rfl (zp1 rfl (zl 0 2 h rfl (zp1 rfl (qb ?_))))))
 refine qq rfl hF ?_ ?_ <;> intro hF
 ·exact zSR (zp1 rfl (qb (qu qc h hF ⟨rfl, trivial⟩)))
 refine zKSSR (zp1 rfl (zl 1 3 h rfl (zp1 rfl (zl 0 3 h rfl (zp1 rfl (qb ?_))))))
 refine qq rfl hF ?_ ?_ <;> intro hF
 ·exact zSR (zp1 rfl (qb (qu qc h hF ⟨rfl, trivial⟩)))
 exact zKSR (zp1 rfl (qb (qu qc h hF ⟨rfl, trivial⟩)))

def qdQ (a : (List qaq)) (b : (List qaq)) : Nat → Int → Option (Flow Bool Int)
 | 0, _ => none
 | n + 1, i1 =>
  bif decide (i1 < (a.length : Int)) then
   (idx a i1).bind fun y1 =>
   (idx b i1).bind fun y2 =>
   (qg4 n y1 y2).bind fun r1 =>
   bif (!r1) then
    some (.ret false)
   else
    qdQ a b n (W64 (i1 + 1))
  else
   some (.nxt i1)

def qhg (n : Nat) (a : (List qaq)) (b : (List qaq)) : Option Bool :=
 bif ((a.length : Int) != (b.length : Int)) then
  some false
 else
  (qdQ a b n 0).bind fun o => match o with
  | .ret r => some r
  | .nxt _ =>
   some true

theorem qln {n : Nat} {w : World} {a : (List qaq)} {b : (List qaq)} {cs1 : List Value} (ha1 : GoT.R w (old w) a cs1) {cs2 : List Value} (ha2 : GoT.R w (old w) b cs2) {r : Bool} (hF : qhg n a b = some r) : RetV Tryz.prog 160 [GoT.v (List qaq) cs1, GoT.v (List qaq) cs2] w r := by
 obtain ⟨p1, k1, rfl, s1⟩ := ha1
 obtain ⟨p2, k2, rfl, s2⟩ := ha2
 refine qe Tryz.func160 rfl (m := 27) rfl rfl (fun h => ?_)
 rw [qhg] at hF
 refine zSR (zp1 rfl (zNSSR (zp5 rfl ?_)))
 refine qb ?_
 refine qq rfl hF ?_ ?_ <;> intro hF
 ·exact zSR (zp1 rfl (qb (qu qc h hF ⟨rfl, trivial⟩)))
 refine zKSSR (zp1 rfl (qb ?_))
 obtain ⟨o1, hF, hK1⟩ := qd hF
 refine qz (qT [(0, _), (1, _), (5, _)] ⟨rfl, rfl, rfl, trivial⟩ ?_)
 refine qH (fun m e w' => ∃ (i1 : Int), qdQ a b m i1 = some o1 ∧ e = [(0, .slice p1 a.length k1), (1, .slice p2 b.length k2), (5, .int .i64 i1)] ∧ SH w w' []) n ⟨_, hF, rfl, h⟩ ?_
 rintro m1 e1 w1 ⟨i1, hF, rfl, h⟩
 rcases m1 with _ | m1
 ·rw [qdQ] at hF
  cases hF
 rw [qdQ] at hF
 refine zSSR (zp4 rfl (qb ?_))
 refine qq rfl hF ?_ ?_ <;> intro hF
 ·refine zKSB (qbn ?_)
  refine qco rfl (by kernel_rfl) ?_
  refine zd2 rfl ?_
  obtain ⟨y1, hy1, hF⟩ := qd hF
  have he1 := qg hy1
  obtain ⟨b1, o_1, q1, cs3, hp1, hq1, -, hr1, hc3⟩ := s1.at hy1
  obtain rfl := qbq hr1
  refine zdxe hp1 hq1 he1 rfl ?_
  refine zdc 0 (hc3.below h.below) rfl ?_
  refine zd2 rfl ?_
  obtain ⟨y2, hy2, hF⟩ := qd hF
  have he2 := qg hy2
  obtain ⟨b2, o_2, q2, cs4, hp2, hq2, -, hr2, hc4⟩ := s2.at hy2
  obtain rfl := qbq hr2
  refine zdxe hp2 hq2 he2 rfl ?_
  refine zdc 0 (hc4.below h.below) rfl ?_
  obtain ⟨r1, hr3, hF⟩ := qd hF
  refine qcf r1 (vsB _) call175 (fun _ hb => qlY (qhl y1) (qhl y2) hr3) rfl rfl rfl rfl ?_
  refine zd1 rfl ?_
  refine qaX (fun w2 hb => ?_)
  replace h := h.ext hb
  clear hb
  refine qq rfl hF ?_ ?_ <;> intro hF
  ·refine zSR (zp1 rfl (qb ?_))
   obtain rfl := qj hF; replace hF := hK1
   exact qu qc h hF ⟨rfl, trivial⟩
  exact zKER (zp3 rfl (qb (qA m1 [(0, _), (1, _), (5, _)] (Nat.lt_succ_self m1) ⟨rfl, rfl, rfl, trivial⟩ ⟨_, hF, rfl, h⟩)))
 refine qI rfl ?_
 obtain rfl := qj hF; replace hF := hK1
 exact zSR (zp1 rfl (qb (qu qc h hF ⟨rfl, trivial⟩)))

def qfB (n : Nat) (a : qF) (b : qF) : Option Bool :=
 (qaT n a.Slews b.Slews).bind fun r1 =>
 bif (!r1) then
  some false
 else
  (qaT n a.Loads b.Loads).bind fun r2 =>
  bif (!r2) then
   some false
  else
   (qaT n a.Values b.Values).bind fun r3 =>
   bif (!r3) then
    some false
   else
    some true

theorem qkX {n : Nat} {w : World} {a : qF} {b : qF} {cs1 : List Value} (ha1 : GoT.R w (old w) a cs1) {cs2 : List Value} (ha2 : GoT.R w (old w) b cs2) {r : Bool} (hF : qfB n a b = some r) : RetV Tryz.prog 203 [GoT.v qF cs1, GoT.v qF cs2] w r := by
 obtain ⟨p1, k1, p2, k2, p3, k3, rfl, s1, s2, s3⟩ := qbD ha1
 obtain ⟨p4, k4, p5, k5, p6, k6, rfl, s4, s5, s6⟩ := qbD ha2
 refine qe Tryz.func203 rfl (m := 23) rfl rfl (fun h => ?_)
 rw [qfB] at hF
 refine zSR (qM h rfl rfl ?_)
 intro w1 bb1 h
 refine qM h rfl rfl ?_
 intro w2 bb2 h
 refine zp1 rfl (zNSSR (zp1 rfl (zl 1 0 h rfl (zp1 rfl (zl 0 0 h rfl ?_)))))
 obtain ⟨r1, hr1, hF⟩ := qd hF
 refine ql r1 h call22 (qaY ⟨_, _, rfl, (h.oldS s1)⟩ ⟨_, _, rfl, (h.oldS s4)⟩ hr1) rfl rfl rfl rfl ?_
 intro w3 h
 refine zp1 rfl (qb ?_)
 refine qq rfl hF ?_ ?_ <;> intro hF
 ·exact zSR (zp1 rfl (qb (qu qc h hF ⟨rfl, trivial⟩)))
 refine zKSSR (zp1 rfl (zl 1 1 h rfl (zp1 rfl (zl 0 1 h rfl ?_))))
 obtain ⟨r2, hr2, hF⟩ := qd hF
 refine ql r2 h call22 (qaY ⟨_, _, rfl, (h.oldS s2)⟩ ⟨_, _, rfl, (h.oldS s5)⟩ hr2) rfl rfl rfl rfl ?_
 intro w4 h
 refine zp1 rfl (qb ?_)
 refine qq rfl hF ?_ ?_ <;> intro hF
 ·exact zSR (zp1 rfl (qb (qu qc h hF ⟨rfl, trivial⟩)))
 refine zKSSR (zp1 rfl (zl 1 2 h rfl (zp1 rfl (zl 0 2 h rfl ?_))))
 obtain ⟨r3, hr3, hF⟩ := qd hF
 refine ql r3 h call22 (qaY ⟨_, _, rfl, (h.oldS s3)⟩ ⟨_, _, rfl, (h.oldS s6)⟩ hr3) rfl rfl rfl rfl ?_
 intro w5 h
 refine zp1 rfl (qb ?_)
 refine qq rfl hF ?_ ?_ <;> intro hF
 ·exact zSR (zp1 rfl (qb (qu qc h hF ⟨rfl, trivial⟩)))
 exact zKSR (zp1 rfl (qb (qu qc h hF ⟨rfl, trivial⟩)))

def qda (a : (List qF)) (b : (List qF)) : Nat → Int → Option (Flow Bool Int)
 | 0, _ => none
 | n + 1, i1 =>
  bif decide (i1 < (a.length : Int)) then
   (idx a i1).bind fun y1 =>
   (idx b i1).bind fun y2 =>
   (qfB n y1 y2).bind fun r1 =>
   bif (!r1) then
    some (.ret false)
   else
    qda a b n (W64 (i1 + 1))
  else
   some (.nxt i1)

def qfg (n : Nat) (a : (List qF)) (b : (List qF)) : Option Bool :=
 bif ((a.length : Int) != (b.length : Int)) then
  some false
 else
  (qda a b n 0).bind fun o => match o with
  | .ret r => some r
  | .nxt _ =>
   some true

theorem qis {n : Nat} {w : World} {a : (List qF)} {b : (List qF)} {cs1 : List Value} (ha1 : GoT.R w (old w) a cs1) {cs2 : List Value} (ha2 : GoT.R w (old w) b cs2) {r : Bool} (hF : qfg n a b = some r) : RetV Tryz.prog 186 [GoT.v (List qF) cs1, GoT.v (List qF) cs2] w r := by
 obtain ⟨p1, k1, rfl, s1⟩ := ha1
 obtain ⟨p2, k2, rfl, s2⟩ := ha2
 refine qe Tryz.func186 rfl (m := 27) rfl rfl (fun h => ?_)
 rw [qfg] at hF
 refine zSR (zp1 rfl (zNSSR (zp5 rfl ?_)))
 refine qb ?_
 refine qq rfl hF ?_ ?_ <;> intro hF
 ·exact zSR (zp1 rfl (qb (qu qc h hF ⟨rfl, trivial⟩)))
 refine zKSSR (zp1 rfl (qb ?_))
 obtain ⟨o1, hF, hK1⟩ := qd hF
 refine qz (qT [(0, _), (1, _), (5, _)] ⟨rfl, rfl, rfl, trivial⟩ ?_)
 refine qH (fun m e w' => ∃ (i1 : Int), qda a b m i1 = some o1 ∧ e = [(0, .slice p1 a.length k1), (1, .slice p2 b.length k2), (5, .int .i64 i1)] ∧ SH w w' []) n ⟨_, hF, rfl, h⟩ ?_
 rintro m1 e1 w1 ⟨i1, hF, rfl, h⟩
 rcases m1 with _ | m1
 ·rw [qda] at hF
  cases hF
 rw [qda] at hF
 refine zSSR (zp4 rfl (qb ?_))
 refine qq rfl hF ?_ ?_ <;> intro hF
 ·refine zKSB (qbn ?_)
  refine qco rfl (by kernel_rfl) ?_
  refine zd2 rfl ?_
  obtain ⟨y1, hy1, hF⟩ := qd hF
  have he1 := qg hy1
  obtain ⟨b1, o_1, q1, cs3, hp1, hq1, -, hr1, hc3⟩ := s1.at hy1
  obtain ⟨p3, k3, p4, k4, p5, k5, rfl, s3, s4, s5⟩ := qbD hr1
  refine zdxe hp1 hq1 he1 rfl ?_
  refine zdc 0 (hc3.below h.below) rfl ?_
  refine zd2 rfl ?_
  obtain ⟨y2, hy2, hF⟩ := qd hF
  have he2 := qg hy2
  obtain ⟨b2, o_2, q2, cs4, hp2, hq2, -, hr2, hc4⟩ := s2.at hy2
  obtain ⟨p6, k6, p7, k7, p8, k8, rfl, s6, s7, s8⟩ := qbD hr2
  refine zdxe hp2 hq2 he2 rfl ?_
  refine zdc 0 (hc4.below h.below) rfl ?_
  obtain ⟨r1, hr3, hF⟩ := qd hF
  refine qcf r1 (vsB _) call203 (fun _ hb => qkX (qgV y1 ((h.ext hb).oldS s3) ((h.ext hb).oldS s4) ((h.ext hb).oldS s5)) (qgV y2 ((h.ext hb).oldS s6) ((h.ext hb).oldS s7) ((h.ext hb).oldS s8)) hr3) rfl rfl rfl rfl ?_
  refine zd1 rfl ?_
  refine qaX (fun w2 hb => ?_)
  replace h := h.ext hb
  clear hb
  refine qq rfl hF ?_ ?_ <;> intro hF
  ·refine zSR (zp1 rfl (qb ?_))
   obtain rfl := qj hF; replace hF := hK1
   exact qu qc h hF ⟨rfl, trivial⟩
  exact zKER (zp3 rfl (qb (qA m1 [(0, _), (1, _), (5, _)] (Nat.lt_succ_self m1) ⟨rfl, rfl, rfl, trivial⟩ ⟨_, hF, rfl, h⟩)))
 refine qI rfl ?_
 obtain rfl := qj hF; replace hF := hK1
 exact zSR (zp1 rfl (qb (qu qc h hF ⟨rfl, trivial⟩)))

def qg5 (n : Nat) (a : qac) (b : qac) : Option Bool :=
 bif (a.Kind != b.Kind) then
  some false
 else
  bif (a.From != b.From) then
   some false
  else
   bif (a.To != b.To) then
    some false
   else
    bif (a.Sense != b.Sense) then
     some false
    else
     (qfg n a.Delay b.Delay).bind fun r1 =>
     bif (!r1) then
      some false
     else
      (qfg n a.Slew b.Slew).bind fun r2 =>
      bif (!r2) then
       some false
      else
       some true

theorem qlV {n : Nat} {w : World} {a : qac} {b : qac} {cs1 : List Value} (ha1 : GoT.R w (old w) a cs1) {cs2 : List Value} (ha2 : GoT.R w (old w) b cs2) {r : Bool} (hF : qg5 n a b = some r) : RetV Tryz.prog 176 [GoT.v qac cs1, GoT.v qac cs2] w r := by
 obtain ⟨p1, k1, p2, k2, rfl, s1, s2⟩ := qat ha1
 obtain ⟨p3, k3, p4, k4, rfl, s3, s4⟩ := qat ha2
 refine qe Tryz.func176 rfl (m := 37) rfl rfl (fun h => ?_)
 rw [qg5] at hF
 refine zSR (qM h rfl rfl ?_)
 intro w1 bb1 h
 refine qM h rfl rfl ?_
 intro w2 bb2 h
 refine zp1 rfl (zNSSR (zp1 rfl (zl 1 0 h rfl (zp1 rfl (zl 0 0 h rfl (zp1 rfl (qb ?_)))))))
 refine qq rfl hF ?_ ?_ <;> intro hF
 ·exact zSR (zp1 rfl (qb (qu qc h hF ⟨rfl, trivial⟩)))
 refine zKSSR (zp1 rfl (zl 1 1 h rfl (zp1 rfl (zl 0 1 h rfl (zp1 rfl (qb ?_))))))
 refine qq rfl hF ?_ ?_ <;> intro hF
 ·exact zSR (zp1 rfl (qb (qu qc h hF ⟨rfl, trivial⟩)))
 refine zKSSR (zp1 rfl (zl 1 2 h rfl (zp1 rfl (zl 0 2 h rfl (zp1 rfl (qb ?_))))))
 refine qq rfl hF ?_ ?_ <;> intro hF
 ·exact zSR (zp1 rfl (qb (qu qc h hF ⟨rfl, trivial⟩)))
 refine zKSSR (zp1 rfl (zl 1 3 h rfl (zp1 rfl (zl 0 3 h rfl (zp1 rfl (qb ?_))))))
 refine qq rfl hF ?_ ?_ <;> intro hF
 ·exact zSR (zp1 rfl (qb (qu qc h hF ⟨rfl, trivial⟩)))
 refine zKSSR (zp1 rfl (zl 1 4 h rfl (zp1 rfl (zl 0 4 h rfl ?_))))
 obtain ⟨r1, hr1, hF⟩ := qd hF
 refine ql r1 h call186 (qis ⟨_, _, rfl, (h.oldS s1)⟩ ⟨_, _, rfl, (h.oldS s3)⟩ hr1) rfl rfl rfl rfl ?_
 intro w3 h
 refine zp1 rfl (qb ?_)
 refine qq rfl hF ?_ ?_ <;> intro hF
 ·exact zSR (zp1 rfl (qb (qu qc h hF ⟨rfl, trivial⟩)))
 refine zKSSR (zp1 rfl (zl 1 5 h rfl (zp1 rfl (zl 0 5 h rfl ?_))))
 obtain ⟨r2, hr2, hF⟩ := qd hF
 refine ql r2 h call186 (qis ⟨_, _, rfl, (h.oldS s2)⟩ ⟨_, _, rfl, (h.oldS s4)⟩ hr2) rfl rfl rfl rfl ?_
 intro w4 h
 refine zp1 rfl (qb ?_)
 refine qq rfl hF ?_ ?_ <;> intro hF
 ·exact zSR (zp1 rfl (qb (qu qc h hF ⟨rfl, trivial⟩)))
 exact zKSR (zp1 rfl (qb (qu qc h hF ⟨rfl, trivial⟩)))

def qdU (a : (List qac)) (b : (List qac)) : Nat → Int → Option (Flow Bool Int)
 | 0, _ => none
 | n + 1, i1 =>
  bif decide (i1 < (a.length : Int)) then
   (idx a i1).bind fun y1 =>
   (idx b i1).bind fun y2 =>
   (qg5 n y1 y2).bind fun r1 =>
   bif (!r1) then
    some (.ret false)
   else
    qdU a b n (W64 (i1 + 1))
  else
   some (.nxt i1)

def qhm (n : Nat) (a : (List qac)) (b : (List qac)) : Option Bool :=
 bif ((a.length : Int) != (b.length : Int)) then
  some false
 else
  (qdU a b n 0).bind fun o => match o with
  | .ret r => some r
  | .nxt _ =>
   some true

theorem qlP {n : Nat} {w : World} {a : (List qac)} {b : (List qac)} {cs1 : List Value} (ha1 : GoT.R w (old w) a cs1) {cs2 : List Value} (ha2 : GoT.R w (old w) b cs2) {r : Bool} (hF : qhm n a b = some r) : RetV Tryz.prog 161 [GoT.v (List qac) cs1, GoT.v (List qac) cs2] w r := by
 obtain ⟨p1, k1, rfl, s1⟩ := ha1
 obtain ⟨p2, k2, rfl, s2⟩ := ha2
 refine qe Tryz.func161 rfl (m := 27) rfl rfl (fun h => ?_)
 rw [qhm] at hF
 refine zSR (zp1 rfl (zNSSR (zp5 rfl ?_)))
 refine qb ?_
 refine qq rfl hF ?_ ?_ <;> intro hF
 ·exact zSR (zp1 rfl (qb (qu qc h hF ⟨rfl, trivial⟩)))
 refine zKSSR (zp1 rfl (qb ?_))
 obtain ⟨o1, hF, hK1⟩ := qd hF
 refine qz (qT [(0, _), (1, _), (5, _)] ⟨rfl, rfl, rfl, trivial⟩ ?_)
 refine qH (fun m e w' => ∃ (i1 : Int), qdU a b m i1 = some o1 ∧ e = [(0, .slice p1 a.length k1), (1, .slice p2 b.length k2), (5, .int .i64 i1)] ∧ SH w w' []) n ⟨_, hF, rfl, h⟩ ?_
 rintro m1 e1 w1 ⟨i1, hF, rfl, h⟩
 rcases m1 with _ | m1
 ·rw [qdU] at hF
  cases hF
 rw [qdU] at hF
 refine zSSR (zp4 rfl (qb ?_))
 refine qq rfl hF ?_ ?_ <;> intro hF
 ·refine zKSB (qbn ?_)
  refine qco rfl (by kernel_rfl) ?_
  refine zd2 rfl ?_
  obtain ⟨y1, hy1, hF⟩ := qd hF
  have he1 := qg hy1
  obtain ⟨b1, o_1, q1, cs3, hp1, hq1, -, hr1, hc3⟩ := s1.at hy1
  obtain ⟨p3, k3, p4, k4, rfl, s3, s4⟩ := qat hr1
  refine zdxe hp1 hq1 he1 rfl ?_
  refine zdc 0 (hc3.below h.below) rfl ?_
  refine zd2 rfl ?_
  obtain ⟨y2, hy2, hF⟩ := qd hF
  have he2 := qg hy2
  obtain ⟨b2, o_2, q2, cs4, hp2, hq2, -, hr2, hc4⟩ := s2.at hy2
  obtain ⟨p5, k5, p6, k6, rfl, s5, s6⟩ := qat hr2
  refine zdxe hp2 hq2 he2 rfl ?_
  refine zdc 0 (hc4.below h.below) rfl ?_
  obtain ⟨r1, hr3, hF⟩ := qd hF
  refine qcf r1 (vsB _) call176 (fun _ hb => qlV (qfq y1 ((h.ext hb).oldS s3) ((h.ext hb).oldS s4)) (qfq y2 ((h.ext hb).oldS s5) ((h.ext hb).oldS s6)) hr3) rfl rfl rfl rfl ?_
  refine zd1 rfl ?_
  refine qaX (fun w2 hb => ?_)
  replace h := h.ext hb
  clear hb
  refine qq rfl hF ?_ ?_ <;> intro hF
  ·refine zSR (zp1 rfl (qb ?_))
   obtain rfl := qj hF; replace hF := hK1
   exact qu qc h hF ⟨rfl, trivial⟩
  exact zKER (zp3 rfl (qb (qA m1 [(0, _), (1, _), (5, _)] (Nat.lt_succ_self m1) ⟨rfl, rfl, rfl, trivial⟩ ⟨_, hF, rfl, h⟩)))
 refine qI rfl ?_
 obtain rfl := qj hF; replace hF := hK1
 exact zSR (zp1 rfl (qb (qu qc h hF ⟨rfl, trivial⟩)))

def qgf (n : Nat) (a : qD) (b : qD) : Option Bool :=
 bif (a.Name.toList != b.Name.toList) then
  some false
 else
  bif (a.Kind != b.Kind) then
   some false
  else
   (qhg n a.Pins b.Pins).bind fun r1 =>
   bif (!r1) then
    some false
   else
    (qhm n a.Arcs b.Arcs).bind fun r2 =>
    bif (!r2) then
     some false
    else
     (qaT n a.Truth b.Truth).bind fun r3 =>
     bif (!r3) then
      some false
     else
      bif (a.Leak != b.Leak) then
       some false
      else
       bif (a.Energy != b.Energy) then
        some false
       else
        some true

theorem qlN {n : Nat} {w : World} {a : qD} {b : qD} {cs1 : List Value} (ha1 : GoT.R w (old w) a cs1) {cs2 : List Value} (ha2 : GoT.R w (old w) b cs2) {r : Bool} (hF : qgf n a b = some r) : RetV Tryz.prog 138 [GoT.v qD cs1, GoT.v qD cs2] w r := by
 obtain ⟨p1, k1, p2, k2, p3, k3, rfl, s1, s2, s3⟩ := qV ha1
 obtain ⟨p4, k4, p5, k5, p6, k6, rfl, s4, s5, s6⟩ := qV ha2
 refine qe Tryz.func138 rfl (m := 43) rfl rfl (fun h => ?_)
 rw [qgf] at hF
 refine zSR (qM h rfl rfl ?_)
 intro w1 bb1 h
 refine qM h rfl rfl ?_
 intro w2 bb2 h
 refine zp1 rfl (zNSSR (zp1 rfl (zl 1 0 h rfl (zp1 rfl (zl 0 0 h rfl (zp1 rfl (qb ?_)))))))
 refine qq rfl hF ?_ ?_ <;> intro hF
 ·exact zSR (zp1 rfl (qb (qu qc h hF ⟨rfl, trivial⟩)))
 refine zKSSR (zp1 rfl (zl 1 1 h rfl (zp1 rfl (zl 0 1 h rfl (zp1 rfl (qb ?_))))))
 refine qq rfl hF ?_ ?_ <;> intro hF
 ·exact zSR (zp1 rfl (qb (qu qc h hF ⟨rfl, trivial⟩)))
 refine zKSSR (zp1 rfl (zl 1 2 h rfl (zp1 rfl (zl 0 2 h rfl ?_))))
 obtain ⟨r1, hr1, hF⟩ := qd hF
 refine ql r1 h call160 (qln ⟨_, _, rfl, (h.oldS s1)⟩ ⟨_, _, rfl, (h.oldS s4)⟩ hr1) rfl rfl rfl rfl ?_
 intro w3 h
 refine zp1 rfl (qb ?_)
 refine qq rfl hF ?_ ?_ <;> intro hF
 ·exact zSR (zp1 rfl (qb (qu qc h hF ⟨rfl, trivial⟩)))
 refine zKSSR (zp1 rfl (zl 1 3 h rfl (zp1 rfl (zl 0 3 h rfl ?_))))
 obtain ⟨r2, hr2, hF⟩ := qd hF
 refine ql r2 h call161 (qlP ⟨_, _, rfl, (h.oldS s2)⟩ ⟨_, _, rfl, (h.oldS s5)⟩ hr2) rfl rfl rfl rfl ?_
 intro w4 h
 refine zp1 rfl (qb ?_)
 refine qq rfl hF ?_ ?_ <;> intro hF
 ·exact zSR (zp1 rfl (qb (qu qc h hF ⟨rfl, trivial⟩)))
 refine zKSSR (zp1 rfl (zl 1 4 h rfl (zp1 rfl (zl 0 4 h rfl ?_))))
 obtain ⟨r3, hr3, hF⟩ := qd hF
 refine ql r3 h call22 (qaY ⟨_, _, rfl, (h.oldS s3)⟩ ⟨_, _, rfl, (h.oldS s6)⟩ hr3) rfl rfl rfl rfl ?_
 intro w5 h
 refine zp1 rfl (qb ?_)
 refine qq rfl hF ?_ ?_ <;> intro hF
 ·exact zSR (zp1 rfl (qb (qu qc h hF ⟨rfl, trivial⟩)))
 refine zKSSR (zp1 rfl (zl 1 5 h rfl (zp1 rfl (zl 0 5 h rfl (zp1 rfl (qb ?_))))))
 refine qq rfl hF ?_ ?_ <;> intro hF
 ·exact zSR (zp1 rfl (qb (qu qc h hF ⟨rfl, trivial⟩)))
 refine zKSSR (zp1 rfl (zl 1 6 h rfl (zp1 rfl (zl 0 6 h rfl (zp1 rfl (qb ?_))))))
 refine qq rfl hF ?_ ?_ <;> intro hF
 ·exact zSR (zp1 rfl (qb (qu qc h hF ⟨rfl, trivial⟩)))
 exact zKSR (zp1 rfl (qb (qu qc h hF ⟨rfl, trivial⟩)))

def qdC (a : (List qD)) (b : (List qD)) : Nat → Int → Option (Flow Bool Int)
 | 0, _ => none
 | n + 1, i1 =>
  bif decide (i1 < (a.length : Int)) then
   (idx a i1).bind fun y1 =>
   (idx b i1).bind fun y2 =>
   (qgf n y1 y2).bind fun r1 =>
   bif (!r1) then
    some (.ret false)
   else
    qdC a b n (W64 (i1 + 1))
  else
   some (.nxt i1)

def qgp (n : Nat) (a : (List qD)) (b : (List qD)) : Option Bool :=
 bif ((a.length : Int) != (b.length : Int)) then
  some false
 else
  (qdC a b n 0).bind fun o => match o with
  | .ret r => some r
  | .nxt _ =>
   some true

theorem qkK {n : Nat} {w : World} {a : (List qD)} {b : (List qD)} {cs1 : List Value} (ha1 : GoT.R w (old w) a cs1) {cs2 : List Value} (ha2 : GoT.R w (old w) b cs2) {r : Bool} (hF : qgp n a b = some r) : RetV Tryz.prog 86 [GoT.v (List qD) cs1, GoT.v (List qD) cs2] w r := by
 obtain ⟨p1, k1, rfl, s1⟩ := ha1
 obtain ⟨p2, k2, rfl, s2⟩ := ha2
 refine qe Tryz.func86 rfl (m := 27) rfl rfl (fun h => ?_)
 rw [qgp] at hF
 refine zSR (zp1 rfl (zNSSR (zp5 rfl ?_)))
 refine qb ?_
 refine qq rfl hF ?_ ?_ <;> intro hF
 ·exact zSR (zp1 rfl (qb (qu qc h hF ⟨rfl, trivial⟩)))
 refine zKSSR (zp1 rfl (qb ?_))
 obtain ⟨o1, hF, hK1⟩ := qd hF
 refine qz (qT [(0, _), (1, _), (5, _)] ⟨rfl, rfl, rfl, trivial⟩ ?_)
 refine qH (fun m e w' => ∃ (i1 : Int), qdC a b m i1 = some o1 ∧ e = [(0, .slice p1 a.length k1), (1, .slice p2 b.length k2), (5, .int .i64 i1)] ∧ SH w w' []) n ⟨_, hF, rfl, h⟩ ?_
 rintro m1 e1 w1 ⟨i1, hF, rfl, h⟩
 rcases m1 with _ | m1
 ·rw [qdC] at hF
  cases hF
 rw [qdC] at hF
 refine zSSR (zp4 rfl (qb ?_))
 refine qq rfl hF ?_ ?_ <;> intro hF
 ·refine zKSB (qbn ?_)
  refine qco rfl (by kernel_rfl) ?_
  refine zd2 rfl ?_
  obtain ⟨y1, hy1, hF⟩ := qd hF
  have he1 := qg hy1
  obtain ⟨b1, o_1, q1, cs3, hp1, hq1, -, hr1, hc3⟩ := s1.at hy1
  obtain ⟨p3, k3, p4, k4, p5, k5, rfl, s3, s4, s5⟩ := qV hr1
  refine zdxe hp1 hq1 he1 rfl ?_
  refine zdc 0 (hc3.below h.below) rfl ?_
  refine zd2 rfl ?_
  obtain ⟨y2, hy2, hF⟩ := qd hF
  have he2 := qg hy2
  obtain ⟨b2, o_2, q2, cs4, hp2, hq2, -, hr2, hc4⟩ := s2.at hy2
  obtain ⟨p6, k6, p7, k7, p8, k8, rfl, s6, s7, s8⟩ := qV hr2
  refine zdxe hp2 hq2 he2 rfl ?_
  refine zdc 0 (hc4.below h.below) rfl ?_
  obtain ⟨r1, hr3, hF⟩ := qd hF
  refine qcf r1 (vsB _) call138 (fun _ hb => qlN (qgg y1 ((h.ext hb).oldS s3) ((h.ext hb).oldS s4) ((h.ext hb).oldS s5)) (qgg y2 ((h.ext hb).oldS s6) ((h.ext hb).oldS s7) ((h.ext hb).oldS s8)) hr3) rfl rfl rfl rfl ?_
  refine zd1 rfl ?_
  refine qaX (fun w2 hb => ?_)
  replace h := h.ext hb
  clear hb
  refine qq rfl hF ?_ ?_ <;> intro hF
  ·refine zSR (zp1 rfl (qb ?_))
   obtain rfl := qj hF; replace hF := hK1
   exact qu qc h hF ⟨rfl, trivial⟩
  exact zKER (zp3 rfl (qb (qA m1 [(0, _), (1, _), (5, _)] (Nat.lt_succ_self m1) ⟨rfl, rfl, rfl, trivial⟩ ⟨_, hF, rfl, h⟩)))
 refine qI rfl ?_
 obtain rfl := qj hF; replace hF := hK1
 exact zSR (zp1 rfl (qb (qu qc h hF ⟨rfl, trivial⟩)))

def qfz (n : Nat) (a : qt) (b : qt) : Option Bool :=
 (qgp n a.Cells b.Cells).bind fun r1 =>
 bif (!r1) then
  some false
 else
  some true

theorem qjY {n : Nat} {w : World} {a : qt} {b : qt} {cs1 : List Value} (ha1 : GoT.R w (old w) a cs1) {cs2 : List Value} (ha2 : GoT.R w (old w) b cs2) {r : Bool} (hF : qfz n a b = some r) : RetV Tryz.prog 42 [GoT.v qt cs1, GoT.v qt cs2] w r := by
 obtain ⟨p1, k1, rfl, s1⟩ := qbu ha1
 obtain ⟨p2, k2, rfl, s2⟩ := qbu ha2
 refine qe Tryz.func42 rfl (m := 11) rfl rfl (fun h => ?_)
 rw [qfz] at hF
 refine zSR (qM h rfl rfl ?_)
 intro w1 bb1 h
 refine qM h rfl rfl ?_
 intro w2 bb2 h
 refine zp1 rfl (zNSSR (zp1 rfl (zl 1 0 h rfl (zp1 rfl (zl 0 0 h rfl ?_)))))
 obtain ⟨r1, hr1, hF⟩ := qd hF
 refine ql r1 h call86 (qkK ⟨_, _, rfl, (h.oldS s1)⟩ ⟨_, _, rfl, (h.oldS s2)⟩ hr1) rfl rfl rfl rfl ?_
 intro w3 h
 refine zp1 rfl (qb ?_)
 refine qq rfl hF ?_ ?_ <;> intro hF
 ·exact zSR (zp1 rfl (qb (qu qc h hF ⟨rfl, trivial⟩)))
 exact zKSR (zp1 rfl (qb (qu qc h hF ⟨rfl, trivial⟩)))

def qd6 (n : Nat) (a : qp) (b : qp) : Option Bool :=
 bif (a.Name.toList != b.Name.toList) then
  some false
 else
  bif (a.Cell != b.Cell) then
   some false
  else
   (qaT n a.Nets b.Nets).bind fun r1 =>
   bif (!r1) then
    some false
   else
    some true

theorem qjI {n : Nat} {w : World} {a : qp} {b : qp} {cs1 : List Value} (ha1 : GoT.R w (old w) a cs1) {cs2 : List Value} (ha2 : GoT.R w (old w) b cs2) {r : Bool} (hF : qd6 n a b = some r) : RetV Tryz.prog 139 [GoT.v qp cs1, GoT.v qp cs2] w r := by
 obtain ⟨p1, k1, rfl, s1⟩ := qX ha1
 obtain ⟨p2, k2, rfl, s2⟩ := qX ha2
 refine qe Tryz.func139 rfl (m := 21) rfl rfl (fun h => ?_)
 rw [qd6] at hF
 refine zSR (qM h rfl rfl ?_)
 intro w1 bb1 h
 refine qM h rfl rfl ?_
 intro w2 bb2 h
 refine zp1 rfl (zNSSR (zp1 rfl (zl 1 0 h rfl (zp1 rfl (zl 0 0 h rfl (zp1 rfl (qb ?_)))))))
 refine qq rfl hF ?_ ?_ <;> intro hF
 ·exact zSR (zp1 rfl (qb (qu qc h hF ⟨rfl, trivial⟩)))
 refine zKSSR (zp1 rfl (zl 1 1 h rfl (zp1 rfl (zl 0 1 h rfl (zp1 rfl (qb ?_))))))
 refine qq rfl hF ?_ ?_ <;> intro hF
 ·exact zSR (zp1 rfl (qb (qu qc h hF ⟨rfl, trivial⟩)))
 refine zKSSR (zp1 rfl (zl 1 2 h rfl (zp1 rfl (zl 0 2 h rfl ?_))))
 obtain ⟨r1, hr1, hF⟩ := qd hF
 refine ql r1 h call22 (qaY ⟨_, _, rfl, (h.oldS s1)⟩ ⟨_, _, rfl, (h.oldS s2)⟩ hr1) rfl rfl rfl rfl ?_
 intro w3 h
 refine zp1 rfl (qb ?_)
 refine qq rfl hF ?_ ?_ <;> intro hF
 ·exact zSR (zp1 rfl (qb (qu qc h hF ⟨rfl, trivial⟩)))
 exact zKSR (zp1 rfl (qb (qu qc h hF ⟨rfl, trivial⟩)))

def qb8 (a : (List qp)) (b : (List qp)) : Nat → Int → Option (Flow Bool Int)
 | 0, _ => none
 | n + 1, i1 =>
  bif decide (i1 < (a.length : Int)) then
   (idx a i1).bind fun y1 =>
   (idx b i1).bind fun y2 =>
   (qd6 n y1 y2).bind fun r1 =>
   bif (!r1) then
    some (.ret false)
   else
    qb8 a b n (W64 (i1 + 1))
  else
   some (.nxt i1)

def qew (n : Nat) (a : (List qp)) (b : (List qp)) : Option Bool :=
 bif ((a.length : Int) != (b.length : Int)) then
  some false
 else
  (qb8 a b n 0).bind fun o => match o with
  | .ret r => some r
  | .nxt _ =>
   some true

theorem qjz {n : Nat} {w : World} {a : (List qp)} {b : (List qp)} {cs1 : List Value} (ha1 : GoT.R w (old w) a cs1) {cs2 : List Value} (ha2 : GoT.R w (old w) b cs2) {r : Bool} (hF : qew n a b = some r) : RetV Tryz.prog 87 [GoT.v (List qp) cs1, GoT.v (List qp) cs2] w r := by
 obtain ⟨p1, k1, rfl, s1⟩ := ha1
 obtain ⟨p2, k2, rfl, s2⟩ := ha2
 refine qe Tryz.func87 rfl (m := 27) rfl rfl (fun h => ?_)
 rw [qew] at hF
 refine zSR (zp1 rfl (zNSSR (zp5 rfl ?_)))
 refine qb ?_
 refine qq rfl hF ?_ ?_ <;> intro hF
 ·exact zSR (zp1 rfl (qb (qu qc h hF ⟨rfl, trivial⟩)))
 refine zKSSR (zp1 rfl (qb ?_))
 obtain ⟨o1, hF, hK1⟩ := qd hF
 refine qz (qT [(0, _), (1, _), (5, _)] ⟨rfl, rfl, rfl, trivial⟩ ?_)
 refine qH (fun m e w' => ∃ (i1 : Int), qb8 a b m i1 = some o1 ∧ e = [(0, .slice p1 a.length k1), (1, .slice p2 b.length k2), (5, .int .i64 i1)] ∧ SH w w' []) n ⟨_, hF, rfl, h⟩ ?_
 rintro m1 e1 w1 ⟨i1, hF, rfl, h⟩
 rcases m1 with _ | m1
 ·rw [qb8] at hF
  cases hF
 rw [qb8] at hF
 refine zSSR (zp4 rfl (qb ?_))
 refine qq rfl hF ?_ ?_ <;> intro hF
 ·refine zKSB (qbn ?_)
  refine qco rfl (by kernel_rfl) ?_
  refine zd2 rfl ?_
  obtain ⟨y1, hy1, hF⟩ := qd hF
  have he1 := qg hy1
  obtain ⟨b1, o_1, q1, cs3, hp1, hq1, -, hr1, hc3⟩ := s1.at hy1
  obtain ⟨p3, k3, rfl, s3⟩ := qX hr1
  refine zdxe hp1 hq1 he1 rfl ?_
  refine zdc 0 (hc3.below h.below) rfl ?_
  refine zd2 rfl ?_
  obtain ⟨y2, hy2, hF⟩ := qd hF
  have he2 := qg hy2
  obtain ⟨b2, o_2, q2, cs4, hp2, hq2, -, hr2, hc4⟩ := s2.at hy2
  obtain ⟨p4, k4, rfl, s4⟩ := qX hr2
  refine zdxe hp2 hq2 he2 rfl ?_
  refine zdc 0 (hc4.below h.below) rfl ?_
  obtain ⟨r1, hr3, hF⟩ := qd hF
  refine qcf r1 (vsB _) call139 (fun _ hb => qjI (qfc y1 ((h.ext hb).oldS s3)) (qfc y2 ((h.ext hb).oldS s4)) hr3) rfl rfl rfl rfl ?_
  refine zd1 rfl ?_
  refine qaX (fun w2 hb => ?_)
  replace h := h.ext hb
  clear hb
  refine qq rfl hF ?_ ?_ <;> intro hF
  ·refine zSR (zp1 rfl (qb ?_))
   obtain rfl := qj hF; replace hF := hK1
   exact qu qc h hF ⟨rfl, trivial⟩
  exact zKER (zp3 rfl (qb (qA m1 [(0, _), (1, _), (5, _)] (Nat.lt_succ_self m1) ⟨rfl, rfl, rfl, trivial⟩ ⟨_, hF, rfl, h⟩)))
 refine qI rfl ?_
 obtain rfl := qj hF; replace hF := hK1
 exact zSR (zp1 rfl (qb (qu qc h hF ⟨rfl, trivial⟩)))

def qcH (a : (List ByteArray)) (b : (List ByteArray)) : Nat → Int → Option (Flow Bool Int)
 | 0, _ => none
 | n + 1, i1 =>
  bif decide (i1 < (a.length : Int)) then
   (idx a i1).bind fun y1 =>
   (idx b i1).bind fun y2 =>
   bif (y1.toList != y2.toList) then
    some (.ret false)
   else
    qcH a b n (W64 (i1 + 1))
  else
   some (.nxt i1)

def qfw (n : Nat) (a : (List ByteArray)) (b : (List ByteArray)) : Option Bool :=
 bif ((a.length : Int) != (b.length : Int)) then
  some false
 else
  (qcH a b n 0).bind fun o => match o with
  | .ret r => some r
  | .nxt _ =>
   some true

theorem qj3 {n : Nat} {w : World} {a : (List ByteArray)} {b : (List ByteArray)} {cs1 : List Value} (ha1 : GoT.R w (old w) a cs1) {cs2 : List Value} (ha2 : GoT.R w (old w) b cs2) {r : Bool} (hF : qfw n a b = some r) : RetV Tryz.prog 88 [GoT.v (List ByteArray) cs1, GoT.v (List ByteArray) cs2] w r := by
 obtain ⟨p1, k1, rfl, s1⟩ := ha1
 obtain ⟨p2, k2, rfl, s2⟩ := ha2
 refine qe Tryz.func88 rfl (m := 26) rfl rfl (fun h => ?_)
 rw [qfw] at hF
 refine zSR (zp1 rfl (zNSSR (zp5 rfl ?_)))
 refine qb ?_
 refine qq rfl hF ?_ ?_ <;> intro hF
 ·exact zSR (zp1 rfl (qb (qu qc h hF ⟨rfl, trivial⟩)))
 refine zKSSR (zp1 rfl (qb ?_))
 obtain ⟨o1, hF, hK1⟩ := qd hF
 refine qz (qT [(0, _), (1, _), (5, _)] ⟨rfl, rfl, rfl, trivial⟩ ?_)
 refine qH (fun m e w' => ∃ (i1 : Int), qcH a b m i1 = some o1 ∧ e = [(0, .slice p1 a.length k1), (1, .slice p2 b.length k2), (5, .int .i64 i1)] ∧ SH w w' []) n ⟨_, hF, rfl, h⟩ ?_
 rintro m1 e1 w1 ⟨i1, hF, rfl, h⟩
 rcases m1 with _ | m1
 ·rw [qcH] at hF
  cases hF
 rw [qcH] at hF
 refine zSSR (zp4 rfl (qb ?_))
 refine qq rfl hF ?_ ?_ <;> intro hF
 ·refine zKSB (qbn ?_)
  refine qco rfl (by kernel_rfl) ?_
  refine zd2 rfl ?_
  obtain ⟨y1, hy1, hF⟩ := qd hF
  have he1 := qg hy1
  obtain ⟨b1, o_1, q1, cs3, hp1, hq1, -, hr1, hc3⟩ := s1.at hy1
  obtain rfl := hr1
  refine zdxe hp1 hq1 he1 rfl ?_
  refine zdc 0 (hc3.below h.below) rfl ?_
  refine zd2 rfl ?_
  obtain ⟨y2, hy2, hF⟩ := qd hF
  have he2 := qg hy2
  obtain ⟨b2, o_2, q2, cs4, hp2, hq2, -, hr2, hc4⟩ := s2.at hy2
  obtain rfl := hr2
  refine zdxe hp2 hq2 he2 rfl ?_
  refine zdc 0 (hc4.below h.below) rfl ?_
  refine zd1 rfl ?_
  refine qaX (fun w2 hb => ?_)
  replace h := h.ext hb
  clear hb
  refine qq rfl hF ?_ ?_ <;> intro hF
  ·refine zSR (zp1 rfl (qb ?_))
   obtain rfl := qj hF; replace hF := hK1
   exact qu qc h hF ⟨rfl, trivial⟩
  exact zKER (zp3 rfl (qb (qA m1 [(0, _), (1, _), (5, _)] (Nat.lt_succ_self m1) ⟨rfl, rfl, rfl, trivial⟩ ⟨_, hF, rfl, h⟩)))
 refine qI rfl ?_
 obtain rfl := qj hF; replace hF := hK1
 exact zSR (zp1 rfl (qb (qu qc h hF ⟨rfl, trivial⟩)))

def qgd (_ : Nat) (a : qaj) (b : qaj) : Option Bool :=
 bif (a.Name.toList != b.Name.toList) then
  some false
 else
  bif (a.Dir != b.Dir) then
   some false
  else
   bif (a.Net != b.Net) then
    some false
   else
    some true

theorem qlH {n : Nat} {w : World} {a : qaj} {b : qaj} {cs1 : List Value} (ha1 : GoT.R w (old w) a cs1) {cs2 : List Value} (ha2 : GoT.R w (old w) b cs2) {r : Bool} (hF : qgd n a b = some r) : RetV Tryz.prog 140 [GoT.v qaj cs1, GoT.v qaj cs2] w r := by
 obtain rfl := qbt ha1
 obtain rfl := qbt ha2
 refine qe Tryz.func140 rfl (m := 20) rfl rfl (fun h => ?_)
 rw [qgd] at hF
 refine zSR (qM h rfl rfl ?_)
 intro w1 bb1 h
 refine qM h rfl rfl ?_
 intro w2 bb2 h
 refine zp1 rfl (zNSSR (zp1 rfl (zl 1 0 h rfl (zp1 rfl (zl 0 0 h rfl (zp1 rfl (qb ?_)))))))
 refine qq rfl hF ?_ ?_ <;> intro hF
 ·exact zSR (zp1 rfl (qb (qu qc h hF ⟨rfl, trivial⟩)))
 refine zKSSR (zp1 rfl (zl 1 1 h rfl (zp1 rfl (zl 0 1 h rfl (zp1 rfl (qb ?_))))))
 refine qq rfl hF ?_ ?_ <;> intro hF
 ·exact zSR (zp1 rfl (qb (qu qc h hF ⟨rfl, trivial⟩)))
 refine zKSSR (zp1 rfl (zl 1 2 h rfl (zp1 rfl (zl 0 2 h rfl (zp1 rfl (qb ?_))))))
 refine qq rfl hF ?_ ?_ <;> intro hF
 ·exact zSR (zp1 rfl (qb (qu qc h hF ⟨rfl, trivial⟩)))
 exact zKSR (zp1 rfl (qb (qu qc h hF ⟨rfl, trivial⟩)))

def qdy (a : (List qaj)) (b : (List qaj)) : Nat → Int → Option (Flow Bool Int)
 | 0, _ => none
 | n + 1, i1 =>
  bif decide (i1 < (a.length : Int)) then
   (idx a i1).bind fun y1 =>
   (idx b i1).bind fun y2 =>
   (qgd n y1 y2).bind fun r1 =>
   bif (!r1) then
    some (.ret false)
   else
    qdy a b n (W64 (i1 + 1))
  else
   some (.nxt i1)

def qgD (n : Nat) (a : (List qaj)) (b : (List qaj)) : Option Bool :=
 bif ((a.length : Int) != (b.length : Int)) then
  some false
 else
  (qdy a b n 0).bind fun o => match o with
  | .ret r => some r
  | .nxt _ =>
   some true

theorem qkU {n : Nat} {w : World} {a : (List qaj)} {b : (List qaj)} {cs1 : List Value} (ha1 : GoT.R w (old w) a cs1) {cs2 : List Value} (ha2 : GoT.R w (old w) b cs2) {r : Bool} (hF : qgD n a b = some r) : RetV Tryz.prog 89 [GoT.v (List qaj) cs1, GoT.v (List qaj) cs2] w r := by
 obtain ⟨p1, k1, rfl, s1⟩ := ha1
 obtain ⟨p2, k2, rfl, s2⟩ := ha2
 refine qe Tryz.func89 rfl (m := 27) rfl rfl (fun h => ?_)
 rw [qgD] at hF
 refine zSR (zp1 rfl (zNSSR (zp5 rfl ?_)))
 refine qb ?_
 refine qq rfl hF ?_ ?_ <;> intro hF
 ·exact zSR (zp1 rfl (qb (qu qc h hF ⟨rfl, trivial⟩)))
 refine zKSSR (zp1 rfl (qb ?_))
 obtain ⟨o1, hF, hK1⟩ := qd hF
 refine qz (qT [(0, _), (1, _), (5, _)] ⟨rfl, rfl, rfl, trivial⟩ ?_)
 refine qH (fun m e w' => ∃ (i1 : Int), qdy a b m i1 = some o1 ∧ e = [(0, .slice p1 a.length k1), (1, .slice p2 b.length k2), (5, .int .i64 i1)] ∧ SH w w' []) n ⟨_, hF, rfl, h⟩ ?_
 rintro m1 e1 w1 ⟨i1, hF, rfl, h⟩
 rcases m1 with _ | m1
 ·rw [qdy] at hF
  cases hF
 rw [qdy] at hF
 refine zSSR (zp4 rfl (qb ?_))
 refine qq rfl hF ?_ ?_ <;> intro hF
 ·refine zKSB (qbn ?_)
  refine qco rfl (by kernel_rfl) ?_
  refine zd2 rfl ?_
  obtain ⟨y1, hy1, hF⟩ := qd hF
  have he1 := qg hy1
  obtain ⟨b1, o_1, q1, cs3, hp1, hq1, -, hr1, hc3⟩ := s1.at hy1
  obtain rfl := qbt hr1
  refine zdxe hp1 hq1 he1 rfl ?_
  refine zdc 0 (hc3.below h.below) rfl ?_
  refine zd2 rfl ?_
  obtain ⟨y2, hy2, hF⟩ := qd hF
  have he2 := qg hy2
  obtain ⟨b2, o_2, q2, cs4, hp2, hq2, -, hr2, hc4⟩ := s2.at hy2
  obtain rfl := qbt hr2
  refine zdxe hp2 hq2 he2 rfl ?_
  refine zdc 0 (hc4.below h.below) rfl ?_
  obtain ⟨r1, hr3, hF⟩ := qd hF
  refine qcf r1 (vsB _) call140 (fun _ hb => qlH (qg3 y1) (qg3 y2) hr3) rfl rfl rfl rfl ?_
  refine zd1 rfl ?_
  refine qaX (fun w2 hb => ?_)
  replace h := h.ext hb
  clear hb
  refine qq rfl hF ?_ ?_ <;> intro hF
  ·refine zSR (zp1 rfl (qb ?_))
   obtain rfl := qj hF; replace hF := hK1
   exact qu qc h hF ⟨rfl, trivial⟩
  exact zKER (zp3 rfl (qb (qA m1 [(0, _), (1, _), (5, _)] (Nat.lt_succ_self m1) ⟨rfl, rfl, rfl, trivial⟩ ⟨_, hF, rfl, h⟩)))
 refine qI rfl ?_
 obtain rfl := qj hF; replace hF := hK1
 exact zSR (zp1 rfl (qb (qu qc h hF ⟨rfl, trivial⟩)))

def qfZ (n : Nat) (a : qk) (b : qk) : Option Bool :=
 (qew n a.Instances b.Instances).bind fun r1 =>
 bif (!r1) then
  some false
 else
  (qfw n a.Nets b.Nets).bind fun r2 =>
  bif (!r2) then
   some false
  else
   (qgD n a.Ports b.Ports).bind fun r3 =>
   bif (!r3) then
    some false
   else
    some true

theorem qkn {n : Nat} {w : World} {a : qk} {b : qk} {cs1 : List Value} (ha1 : GoT.R w (old w) a cs1) {cs2 : List Value} (ha2 : GoT.R w (old w) b cs2) {r : Bool} (hF : qfZ n a b = some r) : RetV Tryz.prog 43 [GoT.v qk cs1, GoT.v qk cs2] w r := by
 obtain ⟨p1, k1, p2, k2, p3, k3, rfl, s1, s2, s3⟩ := qan ha1
 obtain ⟨p4, k4, p5, k5, p6, k6, rfl, s4, s5, s6⟩ := qan ha2
 refine qe Tryz.func43 rfl (m := 23) rfl rfl (fun h => ?_)
 rw [qfZ] at hF
 refine zSR (qM h rfl rfl ?_)
 intro w1 bb1 h
 refine qM h rfl rfl ?_
 intro w2 bb2 h
 refine zp1 rfl (zNSSR (zp1 rfl (zl 1 0 h rfl (zp1 rfl (zl 0 0 h rfl ?_)))))
 obtain ⟨r1, hr1, hF⟩ := qd hF
 refine ql r1 h call87 (qjz ⟨_, _, rfl, (h.oldS s1)⟩ ⟨_, _, rfl, (h.oldS s4)⟩ hr1) rfl rfl rfl rfl ?_
 intro w3 h
 refine zp1 rfl (qb ?_)
 refine qq rfl hF ?_ ?_ <;> intro hF
 ·exact zSR (zp1 rfl (qb (qu qc h hF ⟨rfl, trivial⟩)))
 refine zKSSR (zp1 rfl (zl 1 1 h rfl (zp1 rfl (zl 0 1 h rfl ?_))))
 obtain ⟨r2, hr2, hF⟩ := qd hF
 refine ql r2 h call88 (qj3 ⟨_, _, rfl, (h.oldS s2)⟩ ⟨_, _, rfl, (h.oldS s5)⟩ hr2) rfl rfl rfl rfl ?_
 intro w4 h
 refine zp1 rfl (qb ?_)
 refine qq rfl hF ?_ ?_ <;> intro hF
 ·exact zSR (zp1 rfl (qb (qu qc h hF ⟨rfl, trivial⟩)))
 refine zKSSR (zp1 rfl (zl 1 2 h rfl (zp1 rfl (zl 0 2 h rfl ?_))))
 obtain ⟨r3, hr3, hF⟩ := qd hF
 refine ql r3 h call89 (qkU ⟨_, _, rfl, (h.oldS s3)⟩ ⟨_, _, rfl, (h.oldS s6)⟩ hr3) rfl rfl rfl rfl ?_
 intro w5 h
 refine zp1 rfl (qb ?_)
 refine qq rfl hF ?_ ?_ <;> intro hF
 ·exact zSR (zp1 rfl (qb (qu qc h hF ⟨rfl, trivial⟩)))
 exact zKSR (zp1 rfl (qb (qu qc h hF ⟨rfl, trivial⟩)))

def qga (n : Nat) (a : qad) (b : qad) : Option Bool :=
 (qaT n a.Parent b.Parent).bind fun r1 =>
 bif (!r1) then
  some false
 else
  (qaT n a.Res b.Res).bind fun r2 =>
  bif (!r2) then
   some false
  else
   (qaT n a.Cap b.Cap).bind fun r3 =>
   bif (!r3) then
    some false
   else
    (qaT n a.Sink b.Sink).bind fun r4 =>
    bif (!r4) then
     some false
    else
     some true

theorem qlS {n : Nat} {w : World} {a : qad} {b : qad} {cs1 : List Value} (ha1 : GoT.R w (old w) a cs1) {cs2 : List Value} (ha2 : GoT.R w (old w) b cs2) {r : Bool} (hF : qga n a b = some r) : RetV Tryz.prog 90 [GoT.v qad cs1, GoT.v qad cs2] w r := by
 obtain ⟨p1, k1, p2, k2, p3, k3, p4, k4, rfl, s1, s2, s3, s4⟩ := qbI ha1
 obtain ⟨p5, k5, p6, k6, p7, k7, p8, k8, rfl, s5, s6, s7, s8⟩ := qbI ha2
 refine qe Tryz.func90 rfl (m := 29) rfl rfl (fun h => ?_)
 rw [qga] at hF
 refine zSR (qM h rfl rfl ?_)
 intro w1 bb1 h
 refine qM h rfl rfl ?_
 intro w2 bb2 h
 refine zp1 rfl (zNSSR (zp1 rfl (zl 1 0 h rfl (zp1 rfl (zl 0 0 h rfl ?_)))))
 obtain ⟨r1, hr1, hF⟩ := qd hF
 refine ql r1 h call22 (qaY ⟨_, _, rfl, (h.oldS s1)⟩ ⟨_, _, rfl, (h.oldS s5)⟩ hr1) rfl rfl rfl rfl ?_
 intro w3 h
 refine zp1 rfl (qb ?_)
 refine qq rfl hF ?_ ?_ <;> intro hF
 ·exact zSR (zp1 rfl (qb (qu qc h hF ⟨rfl, trivial⟩)))
 refine zKSSR (zp1 rfl (zl 1 1 h rfl (zp1 rfl (zl 0 1 h rfl ?_))))
 obtain ⟨r2, hr2, hF⟩ := qd hF
 refine ql r2 h call22 (qaY ⟨_, _, rfl, (h.oldS s2)⟩ ⟨_, _, rfl, (h.oldS s6)⟩ hr2) rfl rfl rfl rfl ?_
 intro w4 h
 refine zp1 rfl (qb ?_)
 refine qq rfl hF ?_ ?_ <;> intro hF
 ·exact zSR (zp1 rfl (qb (qu qc h hF ⟨rfl, trivial⟩)))
 refine zKSSR (zp1 rfl (zl 1 2 h rfl (zp1 rfl (zl 0 2 h rfl ?_))))
 obtain ⟨r3, hr3, hF⟩ := qd hF
 refine ql r3 h call22 (qaY ⟨_, _, rfl, (h.oldS s3)⟩ ⟨_, _, rfl, (h.oldS s7)⟩ hr3) rfl rfl rfl rfl ?_
 intro w5 h
 refine zp1 rfl (qb ?_)
 refine qq rfl hF ?_ ?_ <;> intro hF
 ·exact zSR (zp1 rfl (qb (qu qc h hF ⟨rfl, trivial⟩)))
 refine zKSSR (zp1 rfl (zl 1 3 h rfl (zp1 rfl (zl 0 3 h rfl ?_))))
 obtain ⟨r4, hr4, hF⟩ := qd hF
 refine ql r4 h call22 (qaY ⟨_, _, rfl, (h.oldS s4)⟩ ⟨_, _, rfl, (h.oldS s8)⟩ hr4) rfl rfl rfl rfl ?_
 intro w6 h
 refine zp1 rfl (qb ?_)
 refine qq rfl hF ?_ ?_ <;> intro hF
 ·exact zSR (zp1 rfl (qb (qu qc h hF ⟨rfl, trivial⟩)))
 exact zKSR (zp1 rfl (qb (qu qc h hF ⟨rfl, trivial⟩)))

def qdA (a : (List qad)) (b : (List qad)) : Nat → Int → Option (Flow Bool Int)
 | 0, _ => none
 | n + 1, i1 =>
  bif decide (i1 < (a.length : Int)) then
   (idx a i1).bind fun y1 =>
   (idx b i1).bind fun y2 =>
   (qga n y1 y2).bind fun r1 =>
   bif (!r1) then
    some (.ret false)
   else
    qdA a b n (W64 (i1 + 1))
  else
   some (.nxt i1)

def qgt (n : Nat) (a : (List qad)) (b : (List qad)) : Option Bool :=
 bif ((a.length : Int) != (b.length : Int)) then
  some false
 else
  (qdA a b n 0).bind fun o => match o with
  | .ret r => some r
  | .nxt _ =>
   some true

theorem qkQ {n : Nat} {w : World} {a : (List qad)} {b : (List qad)} {cs1 : List Value} (ha1 : GoT.R w (old w) a cs1) {cs2 : List Value} (ha2 : GoT.R w (old w) b cs2) {r : Bool} (hF : qgt n a b = some r) : RetV Tryz.prog 44 [GoT.v (List qad) cs1, GoT.v (List qad) cs2] w r := by
 obtain ⟨p1, k1, rfl, s1⟩ := ha1
 obtain ⟨p2, k2, rfl, s2⟩ := ha2
 refine qe Tryz.func44 rfl (m := 27) rfl rfl (fun h => ?_)
 rw [qgt] at hF
 refine zSR (zp1 rfl (zNSSR (zp5 rfl ?_)))
 refine qb ?_
 refine qq rfl hF ?_ ?_ <;> intro hF
 ·exact zSR (zp1 rfl (qb (qu qc h hF ⟨rfl, trivial⟩)))
 refine zKSSR (zp1 rfl (qb ?_))
 obtain ⟨o1, hF, hK1⟩ := qd hF
 refine qz (qT [(0, _), (1, _), (5, _)] ⟨rfl, rfl, rfl, trivial⟩ ?_)
 refine qH (fun m e w' => ∃ (i1 : Int), qdA a b m i1 = some o1 ∧ e = [(0, .slice p1 a.length k1), (1, .slice p2 b.length k2), (5, .int .i64 i1)] ∧ SH w w' []) n ⟨_, hF, rfl, h⟩ ?_
 rintro m1 e1 w1 ⟨i1, hF, rfl, h⟩
 rcases m1 with _ | m1
 ·rw [qdA] at hF
  cases hF
 rw [qdA] at hF
 refine zSSR (zp4 rfl (qb ?_))
 refine qq rfl hF ?_ ?_ <;> intro hF
 ·refine zKSB (qbn ?_)
  refine qco rfl (by kernel_rfl) ?_
  refine zd2 rfl ?_
  obtain ⟨y1, hy1, hF⟩ := qd hF
  have he1 := qg hy1
  obtain ⟨b1, o_1, q1, cs3, hp1, hq1, -, hr1, hc3⟩ := s1.at hy1
  obtain ⟨p3, k3, p4, k4, p5, k5, p6, k6, rfl, s3, s4, s5, s6⟩ := qbI hr1
  refine zdxe hp1 hq1 he1 rfl ?_
  refine zdc 0 (hc3.below h.below) rfl ?_
  refine zd2 rfl ?_
  obtain ⟨y2, hy2, hF⟩ := qd hF
  have he2 := qg hy2
  obtain ⟨b2, o_2, q2, cs4, hp2, hq2, -, hr2, hc4⟩ := s2.at hy2
  obtain ⟨p7, k7, p8, k8, p9, k9, p10, k10, rfl, s7, s8, s9, s10⟩ := qbI hr2
  refine zdxe hp2 hq2 he2 rfl ?_
  refine zdc 0 (hc4.below h.below) rfl ?_
  obtain ⟨r1, hr3, hF⟩ := qd hF
  refine qcf r1 (vsB _) call90 (fun _ hb => qlS (qhE y1 ((h.ext hb).oldS s3) ((h.ext hb).oldS s4) ((h.ext hb).oldS s5) ((h.ext hb).oldS s6)) (qhE y2 ((h.ext hb).oldS s7) ((h.ext hb).oldS s8) ((h.ext hb).oldS s9) ((h.ext hb).oldS s10)) hr3) rfl rfl rfl rfl ?_
  refine zd1 rfl ?_
  refine qaX (fun w2 hb => ?_)
  replace h := h.ext hb
  clear hb
  refine qq rfl hF ?_ ?_ <;> intro hF
  ·refine zSR (zp1 rfl (qb ?_))
   obtain rfl := qj hF; replace hF := hK1
   exact qu qc h hF ⟨rfl, trivial⟩
  exact zKER (zp3 rfl (qb (qA m1 [(0, _), (1, _), (5, _)] (Nat.lt_succ_self m1) ⟨rfl, rfl, rfl, trivial⟩ ⟨_, hF, rfl, h⟩)))
 refine qI rfl ?_
 obtain rfl := qj hF; replace hF := hK1
 exact zSR (zp1 rfl (qb (qu qc h hF ⟨rfl, trivial⟩)))

def qgw (n : Nat) (a : qy) (b : qy) : Option Bool :=
 (qfz n (⟨a.Library.Cells⟩ : qt) (⟨b.Library.Cells⟩ : qt)).bind fun r1 =>
 bif (!r1) then
  some false
 else
  (qfZ n (⟨a.Design.Instances, a.Design.Nets, a.Design.Ports⟩ : qk) (⟨b.Design.Instances, b.Design.Nets, b.Design.Ports⟩ : qk)).bind fun r2 =>
  bif (!r2) then
   some false
  else
   (qgt n a.Wires b.Wires).bind fun r3 =>
   bif (!r3) then
    some false
   else
    some true

theorem qkP {n : Nat} {w : World} {a : qy} {b : qy} {cs1 : List Value} (ha1 : GoT.R w (old w) a cs1) {cs2 : List Value} (ha2 : GoT.R w (old w) b cs2) {r : Bool} (hF : qgw n a b = some r) : RetV Tryz.prog 14 [GoT.v qy cs1, GoT.v qy cs2] w r := by
 obtain ⟨p1, k1, p2, k2, p3, k3, p4, k4, p5, k5, rfl, s1, s2, s3, s4, s5⟩ := qas ha1
 obtain ⟨p6, k6, p7, k7, p8, k8, p9, k9, p10, k10, rfl, s6, s7, s8, s9, s10⟩ := qas ha2
 refine qe Tryz.func14 rfl (m := 23) rfl rfl (fun h => ?_)
 rw [qgw] at hF
 refine zSR (qM h rfl rfl ?_)
 intro w1 bb1 h
 refine qM h rfl rfl ?_
 intro w2 bb2 h
 refine zp1 rfl (zNSSR (zp1 rfl (zl 1 0 h rfl (zp1 rfl (zl 0 0 h rfl ?_)))))
 obtain ⟨r1, hr1, hF⟩ := qd hF
 refine ql r1 h call42 (qjY (qdc (⟨a.Library.Cells⟩ : qt) (h.oldS s1)) (qdc (⟨b.Library.Cells⟩ : qt) (h.oldS s6)) hr1) rfl rfl rfl rfl ?_
 intro w3 h
 refine zp1 rfl (qb ?_)
 refine qq rfl hF ?_ ?_ <;> intro hF
 ·exact zSR (zp1 rfl (qb (qu qc h hF ⟨rfl, trivial⟩)))
 refine zKSSR (zp1 rfl (zl 1 1 h rfl (zp1 rfl (zl 0 1 h rfl ?_))))
 obtain ⟨r2, hr2, hF⟩ := qd hF
 refine ql r2 h call43 (qkn (qba (⟨a.Design.Instances, a.Design.Nets, a.Design.Ports⟩ : qk) (h.oldS s2) (h.oldS s3) (h.oldS s4)) (qba (⟨b.Design.Instances, b.Design.Nets, b.Design.Ports⟩ : qk) (h.oldS s7) (h.oldS s8) (h.oldS s9)) hr2) rfl rfl rfl rfl ?_
 intro w4 h
 refine zp1 rfl (qb ?_)
 refine qq rfl hF ?_ ?_ <;> intro hF
 ·exact zSR (zp1 rfl (qb (qu qc h hF ⟨rfl, trivial⟩)))
 refine zKSSR (zp1 rfl (zl 1 4 h rfl (zp1 rfl (zl 0 4 h rfl ?_))))
 obtain ⟨r3, hr3, hF⟩ := qd hF
 refine ql r3 h call44 (qkQ ⟨_, _, rfl, (h.oldS s5)⟩ ⟨_, _, rfl, (h.oldS s10)⟩ hr3) rfl rfl rfl rfl ?_
 intro w5 h
 refine zp1 rfl (qb ?_)
 refine qq rfl hF ?_ ?_ <;> intro hF
 ·exact zSR (zp1 rfl (qb (qu qc h hF ⟨rfl, trivial⟩)))
 exact zKSR (zp1 rfl (qb (qu qc h hF ⟨rfl, trivial⟩)))

def qam (_ : Nat) (a_n : Int) (low : Int) (high : Int) : Option Bool :=
 bif decide (a_n ≥ low) then
  some (decide (a_n ≤ high))
 else
  some false

theorem qaf {n : Nat} {w : World} {a_n : Int} {low : Int} {high : Int}  {r : Bool} (hF : qam n a_n low high = some r) : RetV Tryz.prog 35 [.int .i64 a_n, .int .i64 low, .int .i64 high] w r := by
 refine qe Tryz.func35 rfl (m := 15) rfl rfl (fun h => ?_)
 rw [qam] at hF
 refine zSR (zp1 rfl (zNSR (zp4 rfl ?_)))
 by_cases hc1 : (decide (a_n ≥ low)) = true
 ·replace hF := bifT hc1 hF
  exact qC hc1 (t := 10) rfl (qa rfl (zp1 rfl (qa rfl (zp1 rfl (qa rfl (zp3 rfl (qb (qu qc h hF ⟨rfl, trivial⟩))))))))
 replace hc1 := zb hc1
 replace hF := bifF hc1 hF
 exact qB hc1 (t := 10) rfl (zn3 rfl (zp2 rfl (qb (qu qc h hF ⟨rfl, trivial⟩))))

def qcl (s : ByteArray) : Nat → Int → Option (Flow Bool Int)
 | 0, _ => none
 | n + 1, i1 =>
  bif decide (i1 < (s.size : Int)) then
   (
    (atS s i1).bind fun y3 =>
    bif decide (y3 ≥ 97) then
     (atS s i1).bind fun y4 =>
     some (decide (y4 ≤ 122))
    else
     some false).bind fun b1 =>
   (
    (atS s i1).bind fun y1 =>
    bif decide (y1 ≥ 48) then
     (atS s i1).bind fun y2 =>
     some (decide (y2 ≤ 57))
    else
     some false).bind fun b2 =>
   bif (!b1) then
    bif b2 then
     bif (!(decide (i1 > 0))) then
      some (.ret false)
     else
      qcl s n (W64 (i1 + 1))
    else
     some (.ret false)
   else
    qcl s n (W64 (i1 + 1))
  else
   some (.nxt i1)

def qeT (n : Nat) (s : ByteArray) : Option Bool :=
 (qcl s n 0).bind fun o => match o with
 | .ret r => some r
 | .nxt _ =>
  bif decide ((s.size : Int) ≥ 1) then
   some (decide ((s.size : Int) ≤ 8))
  else
   some false

theorem qhp {n : Nat} {w : World} {s : ByteArray}  {r : Bool} (hF : qeT n s = some r) : RetV Tryz.prog 150 [.string s] w r := by
 refine qe Tryz.func150 rfl (m := 50) rfl rfl (fun h => ?_)
 rw [qeT] at hF
 refine zSR (zp1 rfl (zNSSR (zp1 rfl (qb ?_))))
 obtain ⟨o1, hF, hK1⟩ := qd hF
 refine qz (qT [(0, _), (3, _)] ⟨rfl, rfl, trivial⟩ ?_)
 refine qH (fun m e w' => ∃ (i1 : Int), qcl s m i1 = some o1 ∧ e = [(0, .string s), (3, .int .i64 i1)] ∧ SH w w' []) n ⟨_, hF, rfl, h⟩ ?_
 rintro m1 e1 w1 ⟨i1, hF, rfl, h⟩
 rcases m1 with _ | m1
 ·rw [qcl] at hF
  cases hF
 rw [qcl] at hF
 refine zSSR (zp4 rfl (qb ?_))
 refine qq rfl hF ?_ ?_ <;> intro hF
 ·refine zKSB (qbn ?_)
  obtain ⟨KF2, hKF2, o3, hF, hK3⟩ := bindE hF
  refine qem (fun e w' => ∃ (b1 : Bool), KF2 b1 = some o1 ∧ e = [(0, .string s), (3, .int .i64 i1), (4, .bool b1)] ∧ SH w w' []) ?_ ?_
  ·refine qE (zp2 rfl ?_)
   obtain ⟨y3, hx3, hF⟩ := qd hF
   have g3 := qjd hx3
   refine r_v (qjb qc g3 rfl rfl rfl rfl) rfl (zp2 rfl ?_)
   by_cases hc6 : (decide (y3 ≥ 97)) = true
   ·replace hF := bifT hc6 hF
    refine qC hc6 (t := 16) rfl (qa rfl (zp1 rfl (qa rfl (zp1 rfl (qa rfl ?_)))))
    obtain ⟨y4, hx4, hF⟩ := qd hF
    have g4 := qjd hx4
    refine r_v (qjb qc g4 rfl rfl rfl rfl) rfl (qa rfl (zp3 rfl (qb ?_)))
    obtain rfl := qj hF
    exact qx [(0, _), (3, _), (4, _)] ⟨rfl, rfl, rfl, trivial⟩ ⟨_, hK3, rfl, h⟩
   replace hc6 := zb hc6
   replace hF := bifF hc6 hF
   refine qB hc6 (t := 16) rfl (zn4 rfl (zp2 rfl (qb ?_)))
   obtain rfl := qj hF
   exact qx [(0, _), (3, _), (4, _)] ⟨rfl, rfl, rfl, trivial⟩ ⟨_, hK3, rfl, h⟩
  rintro e3 w3 ⟨b1, hF, rfl, h⟩
  subst hKF2
  refine qbn ?_
  obtain ⟨KF1, hKF1, o2, hF, hK2⟩ := bindE hF
  refine qem (fun e w' => ∃ (b2 : Bool), KF1 b2 = some o1 ∧ e = [(0, .string s), (3, .int .i64 i1), (4, .bool b1), (5, .bool b2)] ∧ SH w w' []) ?_ ?_
  ·refine qE (zp2 rfl ?_)
   obtain ⟨y1, hx1, hF⟩ := qd hF
   have g1 := qjd hx1
   refine r_v (qjb qc g1 rfl rfl rfl rfl) rfl (zp2 rfl ?_)
   by_cases hc5 : (decide (y1 ≥ 48)) = true
   ·replace hF := bifT hc5 hF
    refine qC hc5 (t := 26) rfl (qa rfl (zp1 rfl (qa rfl (zp1 rfl (qa rfl ?_)))))
    obtain ⟨y2, hx2, hF⟩ := qd hF
    have g2 := qjd hx2
    refine r_v (qjb qc g2 rfl rfl rfl rfl) rfl (qa rfl (zp3 rfl (qb ?_)))
    obtain rfl := qj hF
    exact qx [(0, _), (3, _), (4, _), (5, _)] ⟨rfl, rfl, rfl, rfl, trivial⟩ ⟨_, hK2, rfl, h⟩
   replace hc5 := zb hc5
   replace hF := bifF hc5 hF
   refine qB hc5 (t := 26) rfl (zn4 rfl (zp2 rfl (qb ?_)))
   obtain rfl := qj hF
   exact qx [(0, _), (3, _), (4, _), (5, _)] ⟨rfl, rfl, rfl, rfl, trivial⟩ ⟨_, hK2, rfl, h⟩
  rintro e2 w2 ⟨b2, hF, rfl, h⟩
  subst hKF1
  refine zSR (zp3 rfl ?_)
  by_cases hc2 : (!b1) = true
  ·replace hF := bifT hc2 hF
   refine qC hc2 (t := 34) rfl (qa rfl (zp1 rfl (qa rfl (zp1 rfl ?_))))
   by_cases hc3 : b2 = true
   ·replace hF := bifT hc3 hF
    refine qC hc3 (t := 36) rfl (qa rfl (zp1 rfl (qa rfl (zp1 rfl (qa rfl (zp1 rfl (qa rfl (zp2 rfl (qb ?_)))))))))
    refine qq rfl hF ?_ ?_ <;> intro hF
    ·refine zSR (zp1 rfl (qb ?_))
     obtain rfl := qj hF; replace hF := hK1
     exact qu qc h hF ⟨rfl, trivial⟩
    exact zKER (zp3 rfl (qb (qA m1 [(0, _), (3, _)] (Nat.lt_succ_self m1) ⟨rfl, rfl, trivial⟩ ⟨_, hF, rfl, h⟩)))
   replace hc3 := zb hc3
   replace hF := bifF hc3 hF
   refine qB hc3 (t := 36) rfl (zn2 rfl (qa rfl (zp1 rfl (qa rfl (zp2 rfl (qb (qef rfl rfl (zSR ?_))))))))
   refine zp1 rfl (qb ?_)
   obtain rfl := qj hF; replace hF := hK1
   exact qu qc h hF ⟨rfl, trivial⟩
  replace hc2 := zb hc2
  replace hF := bifF hc2 hF
  refine qB hc2 (t := 34) rfl (zn5 rfl (zn1 rfl (zp1 rfl (qb (qc3 rfl rfl (zKE ?_))))))
  exact qE (zp3 rfl (qb (qA m1 [(0, _), (3, _)] (Nat.lt_succ_self m1) ⟨rfl, rfl, trivial⟩ ⟨_, hF, rfl, h⟩)))
 refine qI rfl ?_
 obtain rfl := qj hF; replace hF := hK1
 refine zSR (zp4 rfl ?_)
 by_cases hc7 : (decide ((s.size : Int) ≥ 1)) = true
 ·replace hF := bifT hc7 hF
  exact qC hc7 (t := 45) rfl (qa rfl (zp1 rfl (qa rfl (zp1 rfl (qa rfl (zp3 rfl (qb (qu qc h hF ⟨rfl, trivial⟩))))))))
 replace hc7 := zb hc7
 replace hF := bifF hc7 hF
 exact qB hc7 (t := 45) rfl (zn3 rfl (zp2 rfl (qb (qu qc h hF ⟨rfl, trivial⟩))))

def qcS (a_0 : qD) (i2 : Int) (y1 : qaq) : Nat → Int → Option (Flow (Int × Bool) Int)
 | 0, _ => none
 | n + 1, i3 =>
  bif decide (i3 < i2) then
   (idx a_0.Pins i3).bind fun y2 =>
   bif (y2.Name.toList == y1.Name.toList) then
    some (.ret (0, false))
   else
    qcS a_0 i2 y1 n (W64 (i3 + 1))
  else
   some (.nxt i3)

def qbU (a_0 : qD) : Nat → Int → Int → Option (Flow (Int × Bool) (Int × Int))
 | 0, _, _ => none
 | n + 1, i1, i2 =>
  bif decide (i2 < (a_0.Pins.length : Int)) then
   (idx a_0.Pins i2).bind fun y1 =>
   (qcS a_0 i2 y1 n 0).bind fun o => match o with
   | .ret r => some (.ret r)
   | .nxt _ =>
    (
     (qeT n y1.Name).bind fun r1 =>
     bif (!r1) then
      some true
     else
      (qam n y1.Cap 0 500).bind fun r2 =>
      some (!r2)).bind fun b4 =>
    bif b4 then
     some (.ret (0, false))
    else
     (
      bif (i2 == (W64 ((a_0.Pins.length : Int) - 1))) then
       bif (y1.Dir != 2) then
        some true
       else
        bif (y1.Cap != 0) then
         some true
        else
         bif y1.Clock then
          some true
         else
          bif decide (i2 < (W64 ((a_0.Pins.length : Int) - 1))) then
           some (y1.Dir != 1)
          else
           some false
      else
       bif decide (i2 < (W64 ((a_0.Pins.length : Int) - 1))) then
        some (y1.Dir != 1)
       else
        some false).bind fun b5 =>
     bif b5 then
      some (.ret (0, false))
     else
      bif y1.Clock then
       qbU a_0 n (W64 (i1 + 1)) (W64 (i2 + 1))
      else
       qbU a_0 n i1 (W64 (i2 + 1))
  else
   some (.nxt (i1, i2))

def qgv (n : Nat) (a_0 : qD) : Option (Int × Bool) :=
 (
  bif decide ((a_0.Pins.length : Int) < 2) then
   some true
  else
   some (decide ((a_0.Pins.length : Int) > 5))).bind fun b1 =>
 bif b1 then
  some (0, false)
 else
  (qbU a_0 n 0 0).bind fun o => match o with
  | .ret r => some r
  | .nxt (i1, _) =>
   some (i1, true)

theorem qk1 {n : Nat} {w : World} {a_0 : qD} {cs1 : List Value} (ha1 : GoT.R w (old w) a_0 cs1) {r : (Int × Bool)} (hF : qgv n a_0 = some r) : RetV Tryz.prog 165 [GoT.v qD cs1] w r := by
 obtain ⟨p1, k1, p2, k2, p3, k3, rfl, s1, s2, s3⟩ := qV ha1
 refine qe Tryz.func165 rfl (m := 86) rfl rfl (fun h => ?_)
 rw [qgv] at hF
 refine zSR (qM h rfl rfl ?_)
 intro w1 bb1 h
 refine zp2 rfl (zNSR (zp1 rfl (zl 0 2 h rfl (zp2 rfl (zNSS ?_)))))
 obtain ⟨KF3, hKF3, o5, hF, hK5⟩ := bindE hF
 refine qem (fun e w' => ∃ (b1 : Bool), KF3 b1 = some r ∧ e = [(1, .pointer (some ⟨bb1, 0, none⟩)), (4, .int .i64 (a_0.Pins.length : Int)), (17, .bool b1)] ∧ SH w w' [Ch.box bb1 [.string a_0.Name, .int .i64 a_0.Kind, .slice p1 a_0.Pins.length k1, .slice p2 a_0.Arcs.length k2, .slice p3 a_0.Truth.length k3, .int .i64 a_0.Leak, .int .i64 a_0.Energy] 155]) ?_ ?_
 ·refine qE (zp3 rfl ?_)
  by_cases hc17 : (decide ((a_0.Pins.length : Int) < 2)) = true
  ·replace hF := bifT hc17 hF
   refine qC hc17 (t := 14) rfl (zn2 rfl (zp1 rfl (qb ?_)))
   obtain rfl := qj hF
   exact qx [(1, _), (4, _), (17, _)] ⟨rfl, rfl, rfl, trivial⟩ ⟨_, hK5, rfl, h⟩
  replace hc17 := zb hc17
  replace hF := bifF hc17 hF
  refine qB hc17 (t := 14) rfl (qa rfl (zp1 rfl (qa rfl (zp2 rfl (qb ?_)))))
  obtain rfl := qj hF
  exact qx [(1, _), (4, _), (17, _)] ⟨rfl, rfl, rfl, trivial⟩ ⟨_, hK5, rfl, h⟩
 rintro e5 w11 ⟨b1, hF, rfl, h⟩
 subst hKF3
 refine qq rfl hF ?_ ?_ <;> intro hF
 ·refine zSR (zp2 rfl (qb ?_))
  obtain rfl := qj hF
  exact qap qc (ρ := (Int × Bool)) [GoT.v Int [.int .i64 0], GoT.v Bool [.bool false]] h ⟨rfl, rfl, trivial⟩ (PV.done h (qha h (qbl (S := fun _ => False) rfl) (qav (qbl (S := fun _ => False) rfl)) (by rfl)))
 refine zKSR (zp1 rfl (zNSSR (zp1 rfl (qb ?_))))
 obtain ⟨o1, hF, hK1⟩ := qd hF
 refine qz (qT [(1, _), (4, _), (5, _), (6, _)] ⟨rfl, rfl, rfl, rfl, trivial⟩ ?_)
 refine qH (fun m e w' => ∃ (i1 : Int) (i2 : Int), qbU a_0 m i1 i2 = some o1 ∧ e = [(1, .pointer (some ⟨bb1, 0, none⟩)), (4, .int .i64 (a_0.Pins.length : Int)), (5, .int .i64 i1), (6, .int .i64 i2)] ∧ SH w w' [Ch.box bb1 [.string a_0.Name, .int .i64 a_0.Kind, .slice p1 a_0.Pins.length k1, .slice p2 a_0.Arcs.length k2, .slice p3 a_0.Truth.length k3, .int .i64 a_0.Leak, .int .i64 a_0.Energy] 155]) n ⟨_, _, hF, rfl, h⟩ ?_
 rintro m1 e1 w2 ⟨i1, i2, hF, rfl, h⟩
 rcases m1 with _ | m1
 ·rw [qbU] at hF
  cases hF
 rw [qbU] at hF
 refine zSSR (zp3 rfl (qb ?_))
 refine qq rfl hF ?_ ?_ <;> intro hF
 ·refine zKSBSR (zp1 rfl (zl 0 2 h rfl (zp1 rfl ?_)))
  obtain ⟨y1, hy1, hF⟩ := qd hF
  have he1 := qg hy1
  obtain ⟨b2, o_1, q1, cs2, hp1, hq1, -, hr1, hc3⟩ := s1.at hy1
  obtain rfl := qbq hr1
  refine zxe hp1 hq1 he1 rfl (zc 0 (hc3.below h.below) rfl (qU qc h rfl rfl rfl ?_))
  intro w3 bb2 h
  refine zs 0 h rfl ?_
  intro w4 h
  refine zNSSR (zp1 rfl (qb ?_))
  obtain ⟨o2, hF, hK2⟩ := qd hF
  refine qz (qT [(1, _), (4, _), (5, _), (6, _), (7, _), (8, _)] ⟨rfl, rfl, rfl, rfl, rfl, rfl, trivial⟩ ?_)
  refine qH (fun m e w' => ∃ (i3 : Int), qcS a_0 i2 y1 m i3 = some o2 ∧ e = [(1, .pointer (some ⟨bb1, 0, none⟩)), (4, .int .i64 (a_0.Pins.length : Int)), (5, .int .i64 i1), (6, .int .i64 i2), (7, .pointer (some ⟨bb2, 0, none⟩)), (8, .int .i64 i3)] ∧ SH w w' [Ch.box bb2 [.string y1.Name, .int .i64 y1.Dir, .int .i64 y1.Cap, .bool y1.Clock] 199, Ch.box bb1 [.string a_0.Name, .int .i64 a_0.Kind, .slice p1 a_0.Pins.length k1, .slice p2 a_0.Arcs.length k2, .slice p3 a_0.Truth.length k3, .int .i64 a_0.Leak, .int .i64 a_0.Energy] 155]) m1 ⟨_, hF, rfl, h⟩ ?_
  rintro m2 e2 w5 ⟨i3, hF, rfl, h⟩
  rcases m2 with _ | m2
  ·rw [qcS] at hF
   cases hF
  rw [qcS] at hF
  refine zSSR (zp3 rfl (qb ?_))
  refine qq rfl hF ?_ ?_ <;> intro hF
  ·refine zKSB (qbn ?_)
   refine qco rfl (by kernel_rfl) ?_
   refine zd1 rfl ?_
   refine zdl 1 2 h rfl ?_
   refine zd1 rfl ?_
   obtain ⟨y2, hy2, hF⟩ := qd hF
   have he2 := qg hy2
   obtain ⟨b3, o_2, q2, cs3, hp2, hq2, -, hr2, hc5⟩ := s1.at hy2
   obtain rfl := qbq hr2
   refine zdxe hp2 hq2 he2 rfl ?_
   refine zd1 rfl ?_
   refine zdc 0 (hc5.below h.below) rfl ?_
   refine zd1 rfl ?_
   refine zdl 0 0 h rfl ?_
   refine zd1 rfl ?_
   refine qaX (fun w6 hb => ?_)
   replace h := h.ext hb
   clear hb
   refine qq rfl hF ?_ ?_ <;> intro hF
   ·refine zSR (zp2 rfl (qb ?_))
    obtain rfl := qj hF; replace hF := hK2
    obtain rfl := qj hF; replace hF := hK1
    obtain rfl := qj hF
    exact qap qc (ρ := (Int × Bool)) [GoT.v Int [.int .i64 0], GoT.v Bool [.bool false]] h ⟨rfl, rfl, trivial⟩ (PV.done h (qha h (qbl (S := fun _ => False) rfl) (qav (qbl (S := fun _ => False) rfl)) (by rfl)))
   exact zKER (zp3 rfl (qb (qA m2 [(1, _), (4, _), (5, _), (6, _), (7, _), (8, _)] (Nat.lt_succ_self m2) ⟨rfl, rfl, rfl, rfl, rfl, rfl, trivial⟩ ⟨_, hF, rfl, h⟩)))
  refine qI rfl ?_
  obtain rfl := qj hF; replace hF := hK2
  refine zSS ?_
  obtain ⟨KF2, hKF2, o4, hF, hK4⟩ := bindE hF
  refine qem (fun e w' => ∃ (b4 : Bool), KF2 b4 = some o1 ∧ e = [(1, .pointer (some ⟨bb1, 0, none⟩)), (4, .int .i64 (a_0.Pins.length : Int)), (5, .int .i64 i1), (6, .int .i64 i2), (7, .pointer (some ⟨bb2, 0, none⟩)), (51, .bool b4)] ∧ SH w w' [Ch.box bb2 [.string y1.Name, .int .i64 y1.Dir, .int .i64 y1.Cap, .bool y1.Clock] 199, Ch.box bb1 [.string a_0.Name, .int .i64 a_0.Kind, .slice p1 a_0.Pins.length k1, .slice p2 a_0.Arcs.length k2, .slice p3 a_0.Truth.length k3, .int .i64 a_0.Leak, .int .i64 a_0.Energy] 155]) ?_ ?_
  ·refine qE (zp1 rfl (zl 0 0 h rfl ?_))
   obtain ⟨r1, hr3, hF⟩ := qd hF
   refine ql r1 h call150 (qhp hr3) rfl rfl rfl rfl ?_
   intro w8 h
   refine zp2 rfl ?_
   by_cases hc16 : (!r1) = true
   ·replace hF := bifT hc16 hF
    refine qC hc16 (t := 46) rfl (zn4 rfl (zp1 rfl (qb ?_)))
    obtain rfl := qj hF
    exact qx [(1, _), (4, _), (5, _), (6, _), (7, _), (51, _)] ⟨rfl, rfl, rfl, rfl, rfl, rfl, trivial⟩ ⟨_, hK4, rfl, h⟩
   replace hc16 := zb hc16
   replace hF := bifF hc16 hF
   refine qB hc16 (t := 46) rfl (qa rfl (zp1 rfl (qa rfl (zl 0 2 h rfl (qa rfl ?_)))))
   obtain ⟨r2, hr4, hF⟩ := qd hF
   refine ql r2 h call35 (qaf hr4) rfl rfl rfl rfl ?_
   intro w9 h
   refine qa rfl (zp2 rfl (qb ?_))
   obtain rfl := qj hF
   exact qx [(1, _), (4, _), (5, _), (6, _), (7, _), (51, _)] ⟨rfl, rfl, rfl, rfl, rfl, rfl, trivial⟩ ⟨_, hK4, rfl, h⟩
  rintro e4 w10 ⟨b4, hF, rfl, h⟩
  subst hKF2
  refine qq rfl hF ?_ ?_ <;> intro hF
  ·refine zSR (zp2 rfl (qb ?_))
   obtain rfl := qj hF; replace hF := hK1
   obtain rfl := qj hF
   exact qap qc (ρ := (Int × Bool)) [GoT.v Int [.int .i64 0], GoT.v Bool [.bool false]] h ⟨rfl, rfl, trivial⟩ (PV.done h (qha h (qbl (S := fun _ => False) rfl) (qav (qbl (S := fun _ => False) rfl)) (by rfl)))
  refine zKSS ?_
  obtain ⟨KF1, hKF1, o3, hF, hK3⟩ := bindE hF
  refine qem (fun e w' => ∃ (b5 : Bool), KF1 b5 = some o1 ∧ e = [(1, .pointer (some ⟨bb1, 0, none⟩)), (4, .int .i64 (a_0.Pins.length : Int)), (5, .int .i64 i1), (6, .int .i64 i2), (7, .pointer (some ⟨bb2, 0, none⟩)), (80, .bool b5)] ∧ SH w w' [Ch.box bb2 [.string y1.Name, .int .i64 y1.Dir, .int .i64 y1.Cap, .bool y1.Clock] 199, Ch.box bb1 [.string a_0.Name, .int .i64 a_0.Kind, .slice p1 a_0.Pins.length k1, .slice p2 a_0.Arcs.length k2, .slice p3 a_0.Truth.length k3, .int .i64 a_0.Leak, .int .i64 a_0.Energy] 155]) ?_ ?_
  ·refine qE (zp5 rfl ?_)
   by_cases hc10 : (i2 == (W64 ((a_0.Pins.length : Int) - 1))) = true
   ·replace hF := bifT hc10 hF
    refine qC hc10 (t := 56) rfl (qa rfl (zp1 rfl (qa rfl (zl 0 1 h rfl (qa rfl (zp1 rfl (qa rfl (zp1 rfl ?_))))))))
    by_cases hc11 : (y1.Dir != 2) = true
    ·replace hF := bifT hc11 hF
     refine qC hc11 (t := 60) rfl (zn3 rfl (qa rfl (zp1 rfl (qa rfl (zp1 rfl (zn2 rfl (qa rfl (zp1 rfl ?_))))))))
     refine zp2 rfl (zn5 rfl (zn4 rfl (zp1 rfl ?_)))
     refine qb ?_
     obtain rfl := qj hF
     exact qx [(1, _), (4, _), (5, _), (6, _), (7, _), (80, _)] ⟨rfl, rfl, rfl, rfl, rfl, rfl, trivial⟩ ⟨_, hK3, rfl, h⟩
    replace hc11 := zb hc11
    replace hF := bifF hc11 hF
    refine qB hc11 (t := 60) rfl (qa rfl (zp1 rfl (qa rfl (zl 0 2 h rfl (qa rfl (zp1 rfl (qa rfl (zp1 rfl (qa rfl (zp1 rfl ?_))))))))))
    by_cases hc12 : (y1.Cap != 0) = true
    ·replace hF := bifT hc12 hF
     refine qC hc12 (t := 65) rfl (zn2 rfl (qa rfl (zp3 rfl (zn5 rfl ?_))))
     refine zn4 rfl (zp1 rfl (qb ?_))
     obtain rfl := qj hF
     exact qx [(1, _), (4, _), (5, _), (6, _), (7, _), (80, _)] ⟨rfl, rfl, rfl, rfl, rfl, rfl, trivial⟩ ⟨_, hK3, rfl, h⟩
    replace hc12 := zb hc12
    replace hF := bifF hc12 hF
    refine qB hc12 (t := 65) rfl (qa rfl (zp1 rfl (qa rfl (zl 0 3 h rfl (qa rfl (zp3 rfl ?_))))))
    by_cases hc13 : y1.Clock = true
    ·replace hF := bifT hc13 hF
     refine qC hc13 (t := 70) rfl (zn5 rfl (zn4 rfl (zp1 rfl (qb ?_))))
     obtain rfl := qj hF
     exact qx [(1, _), (4, _), (5, _), (6, _), (7, _), (80, _)] ⟨rfl, rfl, rfl, rfl, rfl, rfl, trivial⟩ ⟨_, hK3, rfl, h⟩
    replace hc13 := zb hc13
    replace hF := bifF hc13 hF
    refine qB hc13 (t := 70) rfl (qa rfl (zp1 rfl (qa rfl (zp1 rfl (qa rfl (zp1 rfl (qa rfl (zp1 rfl (qa rfl (zp1 rfl ?_))))))))))
    by_cases hc14 : (decide (i2 < (W64 ((a_0.Pins.length : Int) - 1)))) = true
    ·replace hF := bifT hc14 hF
     refine qC hc14 (t := 75) rfl (qa rfl (zp1 rfl (qa rfl (zl 0 1 h rfl (qa rfl (zp1 rfl (qa rfl (zp2 rfl (qb ?_)))))))))
     obtain rfl := qj hF
     exact qx [(1, _), (4, _), (5, _), (6, _), (7, _), (80, _)] ⟨rfl, rfl, rfl, rfl, rfl, rfl, trivial⟩ ⟨_, hK3, rfl, h⟩
    replace hc14 := zb hc14
    replace hF := bifF hc14 hF
    refine qB hc14 (t := 75) rfl (zn3 rfl (qa rfl (zp2 rfl (qb ?_))))
    obtain rfl := qj hF
    exact qx [(1, _), (4, _), (5, _), (6, _), (7, _), (80, _)] ⟨rfl, rfl, rfl, rfl, rfl, rfl, trivial⟩ ⟨_, hK3, rfl, h⟩
   replace hc10 := zb hc10
   replace hF := bifF hc10 hF
   refine qB hc10 (t := 56) rfl (zn5 rfl (zn5 rfl (zn1 rfl ?_)))
   refine zn1 rfl (zp2 rfl (qa rfl (zp1 rfl (qa rfl (zp1 rfl (qa rfl (zp1 rfl (qa rfl (zp1 rfl (qa rfl ?_))))))))))
   refine zp1 rfl ?_
   by_cases hc15 : (decide (i2 < (W64 ((a_0.Pins.length : Int) - 1)))) = true
   ·replace hF := bifT hc15 hF
    refine qC hc15 (t := 75) rfl (qa rfl (zp1 rfl (qa rfl (zl 0 1 h rfl (qa rfl (zp1 rfl (qa rfl (zp2 rfl (qb ?_)))))))))
    obtain rfl := qj hF
    exact qx [(1, _), (4, _), (5, _), (6, _), (7, _), (80, _)] ⟨rfl, rfl, rfl, rfl, rfl, rfl, trivial⟩ ⟨_, hK3, rfl, h⟩
   replace hc15 := zb hc15
   replace hF := bifF hc15 hF
   refine qB hc15 (t := 75) rfl (zn3 rfl (qa rfl (zp2 rfl (qb ?_))))
   obtain rfl := qj hF
   exact qx [(1, _), (4, _), (5, _), (6, _), (7, _), (80, _)] ⟨rfl, rfl, rfl, rfl, rfl, rfl, trivial⟩ ⟨_, hK3, rfl, h⟩
  rintro e3 w7 ⟨b5, hF, rfl, h⟩
  subst hKF1
  refine qq rfl hF ?_ ?_ <;> intro hF
  ·refine zSR (zp2 rfl (qb ?_))
   obtain rfl := qj hF; replace hF := hK1
   obtain rfl := qj hF
   exact qap qc (ρ := (Int × Bool)) [GoT.v Int [.int .i64 0], GoT.v Bool [.bool false]] h ⟨rfl, rfl, trivial⟩ (PV.done h (qha h (qbl (S := fun _ => False) rfl) (qav (qbl (S := fun _ => False) rfl)) (by rfl)))
  refine zKSR (zp1 rfl (zl 0 3 h rfl (qb ?_)))
  refine qq rfl hF ?_ ?_ <;> intro hF
  ·refine qE (zp3 rfl (zNER (zp3 rfl (qb ?_))))
   replace h := h.pick [1] rfl
   exact qA m1 [(1, _), (4, _), (5, _), (6, _)] (Nat.lt_succ_self m1) ⟨rfl, rfl, rfl, rfl, trivial⟩ ⟨_, _, hF, rfl, h⟩
  refine zKER (zp3 rfl (qb ?_))
  replace h := h.pick [1] rfl
  exact qA m1 [(1, _), (4, _), (5, _), (6, _)] (Nat.lt_succ_self m1) ⟨rfl, rfl, rfl, rfl, trivial⟩ ⟨_, _, hF, rfl, h⟩
 refine qI rfl ?_
 obtain rfl := qj hF; replace hF := hK1
 refine zSR (zp3 rfl (qb ?_))
 obtain rfl := qj hF
 exact qap qc (ρ := (Int × Bool)) [GoT.v Int [.int .i64 i1], GoT.v Bool [.bool true]] h ⟨rfl, rfl, trivial⟩ (PV.done h (qha h (qbl (S := fun _ => False) rfl) (qav (qbl (S := fun _ => False) rfl)) (by rfl)))

def qcj (list : (List Int)) : Nat → Int → Option (Flow Bool Int)
 | 0, _ => none
 | n + 1, i1 =>
  bif decide (i1 < (list.length : Int)) then
   (idx list i1).bind fun y1 =>
   (qam n y1 0 100000).bind fun r1 =>
   bif (!r1) then
    some (.ret false)
   else
    bif decide (i1 > 0) then
     (idx list (W64 (i1 - 1))).bind fun y2 =>
     (idx list i1).bind fun y3 =>
     bif decide (y2 ≥ y3) then
      some (.ret false)
     else
      qcj list n (W64 (i1 + 1))
    else
     qcj list n (W64 (i1 + 1))
  else
   some (.nxt i1)

def qfF (n : Nat) (list : (List Int)) : Option Bool :=
 (qcj list n 0).bind fun o => match o with
 | .ret r => some r
 | .nxt _ =>
  bif decide ((list.length : Int) ≥ 1) then
   some (decide ((list.length : Int) ≤ 4))
  else
   some false

theorem qiP {n : Nat} {w : World} {list : (List Int)} {cs1 : List Value} (ha1 : GoT.R w (old w) list cs1) {r : Bool} (hF : qfF n list = some r) : RetV Tryz.prog 216 [GoT.v (List Int) cs1] w r := by
 obtain ⟨p1, k1, rfl, s1⟩ := ha1
 refine qe Tryz.func216 rfl (m := 40) rfl rfl (fun h => ?_)
 rw [qfF] at hF
 refine zSR (zp1 rfl (zNSSR (zp1 rfl (qb ?_))))
 obtain ⟨o1, hF, hK1⟩ := qd hF
 refine qz (qT [(0, _), (3, _)] ⟨rfl, rfl, trivial⟩ ?_)
 refine qH (fun m e w' => ∃ (i1 : Int), qcj list m i1 = some o1 ∧ e = [(0, .slice p1 list.length k1), (3, .int .i64 i1)] ∧ SH w w' []) n ⟨_, hF, rfl, h⟩ ?_
 rintro m1 e1 w1 ⟨i1, hF, rfl, h⟩
 rcases m1 with _ | m1
 ·rw [qcj] at hF
  cases hF
 rw [qcj] at hF
 refine zSSR (zp4 rfl (qb ?_))
 refine qq rfl hF ?_ ?_ <;> intro hF
 ·refine zKSB (qbn ?_)
  refine qco rfl (by kernel_rfl) ?_
  refine zd2 rfl ?_
  obtain ⟨y1, hy1, hF⟩ := qd hF
  have he1 := qg hy1
  obtain ⟨b1, o_1, q1, cs2, hp1, hq1, -, hr1, hc2⟩ := s1.at hy1
  obtain rfl := hr1
  refine zdxe hp1 hq1 he1 rfl ?_
  refine zdc 0 (hc2.below h.below) rfl ?_
  obtain ⟨r1, hr2, hF⟩ := qd hF
  refine qcf r1 (vsB _) call35 (fun _ hb => qaf  hr2) rfl rfl rfl rfl ?_
  refine zd2 rfl ?_
  by_cases hc3 : (!r1) = true
  ·replace hF := bifT hc3 hF
   refine qb0 hc3 (t := 16) rfl (qh rfl rfl rfl (qh rfl rfl rfl (qh rfl rfl rfl (qh rfl rfl rfl (qh rfl rfl rfl (qh rfl rfl rfl (qh rfl rfl rfl (qh rfl rfl rfl (qh rfl rfl rfl (qh rfl rfl rfl (qh rfl rfl rfl ?_)))))))))))
   refine qh rfl rfl rfl (qh rfl rfl rfl (qh rfl rfl rfl (zd1 rfl ?_)))
   refine qaX (fun w2 hb => ?_)
   replace h := h.ext hb
   clear hb
   refine qef rfl rfl (zSR (zp1 rfl (qb ?_)))
   obtain rfl := qj hF; replace hF := hK1
   exact qu qc h hF ⟨rfl, trivial⟩
  replace hc3 := zb hc3
  replace hF := bifF hc3 hF
  refine qb3 hc3 (t := 16) rfl (qf rfl (zd1 rfl (qf rfl (zd1 rfl (qf rfl (zd1 rfl ?_))))))
  by_cases hc4 : (decide (i1 > 0)) = true
  ·replace hF := bifT hc4 hF
   refine qb0 hc4 (t := 19) rfl (qf rfl (zd1 rfl (qf rfl (zd1 rfl (qf rfl (zd1 rfl (qf rfl ?_)))))))
   obtain ⟨y2, hy2, hF⟩ := qd hF
   have he2 := qg hy2
   obtain ⟨b2, o_2, q2, cs3, hp2, hq2, -, hr3, hc5⟩ := s1.at hy2
   obtain rfl := hr3
   refine zdxe hp2 hq2 he2 rfl ?_
   refine qf rfl ?_
   refine zdc 0 (hc5.below h.below) rfl ?_
   refine qf rfl (zd1 rfl (qf rfl (zd1 rfl (qf rfl ?_))))
   obtain ⟨y3, hy3, hF⟩ := qd hF
   have he3 := qg hy3
   obtain ⟨b3, o_3, q3, cs4, hp3, hq3, -, hr4, hc6⟩ := s1.at hy3
   obtain rfl := hr4
   refine zdxe hp3 hq3 he3 rfl ?_
   refine qf rfl ?_
   refine zdc 0 (hc6.below h.below) rfl ?_
   refine qf rfl (zd1 rfl (qf rfl (zd2 rfl ?_)))
   refine qaX (fun w3 hb => ?_)
   replace h := h.ext hb
   clear hb
   refine qq rfl hF ?_ ?_ <;> intro hF
   ·refine zSR (zp1 rfl (qb ?_))
    obtain rfl := qj hF; replace hF := hK1
    exact qu qc h hF ⟨rfl, trivial⟩
   exact zKER (zp3 rfl (qb (qA m1 [(0, _), (3, _)] (Nat.lt_succ_self m1) ⟨rfl, rfl, trivial⟩ ⟨_, hF, rfl, h⟩)))
  replace hc4 := zb hc4
  replace hF := bifF hc4 hF
  refine qb3 hc4 (t := 19) rfl (qh rfl rfl rfl (qh rfl rfl rfl (qh rfl rfl rfl (qh rfl rfl rfl (qh rfl rfl rfl (qh rfl rfl rfl (qh rfl rfl rfl (qh rfl rfl rfl (qh rfl rfl rfl (qh rfl rfl rfl (qf rfl ?_)))))))))))
  refine zd2 rfl ?_
  refine qaX (fun w4 hb => ?_)
  replace h := h.ext hb
  clear hb
  exact qc3 rfl rfl (zKER (zp3 rfl (qb (qA m1 [(0, _), (3, _)] (Nat.lt_succ_self m1) ⟨rfl, rfl, trivial⟩ ⟨_, hF, rfl, h⟩))))
 refine qI rfl ?_
 obtain rfl := qj hF; replace hF := hK1
 refine zSR (zp4 rfl ?_)
 by_cases hc8 : (decide ((list.length : Int) ≥ 1)) = true
 ·replace hF := bifT hc8 hF
  exact qC hc8 (t := 35) rfl (qa rfl (zp1 rfl (qa rfl (zp1 rfl (qa rfl (zp3 rfl (qb (qu qc h hF ⟨rfl, trivial⟩))))))))
 replace hc8 := zb hc8
 replace hF := bifF hc8 hF
 exact qB hc8 (t := 35) rfl (zn3 rfl (zp2 rfl (qb (qu qc h hF ⟨rfl, trivial⟩))))

def qc2 (t : qF) : Nat → Int → Option (Flow Bool Int)
 | 0, _ => none
 | n + 1, i1 =>
  bif decide (i1 < (t.Values.length : Int)) then
   (idx t.Values i1).bind fun y1 =>
   (qam n y1 (-1000000) 1000000).bind fun r1 =>
   bif (!r1) then
    some (.ret false)
   else
    qc2 t n (W64 (i1 + 1))
  else
   some (.nxt i1)

def qgC (n : Nat) (t : qF) : Option Bool :=
 (
  (qfF n t.Slews).bind fun r2 =>
  bif (!r2) then
   some true
  else
   (qfF n t.Loads).bind fun r3 =>
   bif (!r3) then
    some true
   else
    some ((t.Values.length : Int) != (W64 ((t.Slews.length : Int) * (t.Loads.length : Int))))).bind fun b1 =>
 bif b1 then
  some false
 else
  (qc2 t n 0).bind fun o => match o with
  | .ret r => some r
  | .nxt _ =>
   some true

theorem qkS {n : Nat} {w : World} {t : qF} {cs1 : List Value} (ha1 : GoT.R w (old w) t cs1) {r : Bool} (hF : qgC n t = some r) : RetV Tryz.prog 204 [GoT.v qF cs1] w r := by
 obtain ⟨p1, k1, p2, k2, p3, k3, rfl, s1, s2, s3⟩ := qbD ha1
 refine qe Tryz.func204 rfl (m := 41) rfl rfl (fun h => ?_)
 rw [qgC] at hF
 refine zSR (qM h rfl rfl ?_)
 intro w1 bb1 h
 refine zp1 rfl (zNSS ?_)
 obtain ⟨KF1, hKF1, o2, hF, hK2⟩ := bindE hF
 refine qem (fun e w' => ∃ (b1 : Bool), KF1 b1 = some r ∧ e = [(1, .pointer (some ⟨bb1, 0, none⟩)), (26, .bool b1)] ∧ SH w w' [Ch.box bb1 [.slice p1 t.Slews.length k1, .slice p2 t.Loads.length k2, .slice p3 t.Values.length k3] 238]) ?_ ?_
 ·refine qE (zp1 rfl (zl 0 0 h rfl ?_))
  obtain ⟨r2, hr3, hF⟩ := qd hF
  refine ql r2 h call216 (qiP ⟨_, _, rfl, (h.oldS s1)⟩ hr3) rfl rfl rfl rfl ?_
  intro w4 h
  refine zp2 rfl ?_
  by_cases hc5 : (!r2) = true
  ·replace hF := bifT hc5 hF
   refine qC hc5 (t := 8) rfl (zn4 rfl (zp2 rfl (zn5 rfl ?_)))
   refine zn5 rfl (zn1 rfl (zp1 rfl (qb ?_)))
   obtain rfl := qj hF
   exact qx [(1, _), (26, _)] ⟨rfl, rfl, trivial⟩ ⟨_, hK2, rfl, h⟩
  replace hc5 := zb hc5
  replace hF := bifF hc5 hF
  refine qB hc5 (t := 8) rfl (qa rfl (zp1 rfl (qa rfl (zl 0 1 h rfl (qa rfl ?_)))))
  obtain ⟨r3, hr4, hF⟩ := qd hF
  refine ql r3 h call216 (qiP ⟨_, _, rfl, (h.oldS s2)⟩ hr4) rfl rfl rfl rfl ?_
  intro w5 h
  refine qa rfl (zp3 rfl ?_)
  by_cases hc6 : (!r3) = true
  ·replace hF := bifT hc6 hF
   refine qC hc6 (t := 14) rfl (zn5 rfl (zn5 rfl (zn1 rfl ?_)))
   refine zp1 rfl (qb ?_)
   obtain rfl := qj hF
   exact qx [(1, _), (26, _)] ⟨rfl, rfl, trivial⟩ ⟨_, hK2, rfl, h⟩
  replace hc6 := zb hc6
  replace hF := bifF hc6 hF
  refine qB hc6 (t := 14) rfl (qa rfl (zp1 rfl (qa rfl (zl 0 2 h rfl (qa rfl (zp1 rfl (qa rfl (zp1 rfl (qa rfl (zl 0 0 h rfl (qa rfl ?_)))))))))))
  refine zp1 rfl (qa rfl (zp1 rfl (qa rfl (zl 0 1 h rfl (qa rfl (zp1 rfl (qa rfl (zp1 rfl (qa rfl (zp2 rfl ?_))))))))))
  refine qb ?_
  obtain rfl := qj hF
  exact qx [(1, _), (26, _)] ⟨rfl, rfl, trivial⟩ ⟨_, hK2, rfl, h⟩
 rintro e2 w6 ⟨b1, hF, rfl, h⟩
 subst hKF1
 refine qq rfl hF ?_ ?_ <;> intro hF
 ·exact zSR (zp1 rfl (qb (qu qc h hF ⟨rfl, trivial⟩)))
 refine zKSSR (zp1 rfl (qb ?_))
 obtain ⟨o1, hF, hK1⟩ := qd hF
 refine qz (qT [(1, _), (3, _)] ⟨rfl, rfl, trivial⟩ ?_)
 refine qH (fun m e w' => ∃ (i1 : Int), qc2 t m i1 = some o1 ∧ e = [(1, .pointer (some ⟨bb1, 0, none⟩)), (3, .int .i64 i1)] ∧ SH w w' [Ch.box bb1 [.slice p1 t.Slews.length k1, .slice p2 t.Loads.length k2, .slice p3 t.Values.length k3] 238]) n ⟨_, hF, rfl, h⟩ ?_
 rintro m1 e1 w2 ⟨i1, hF, rfl, h⟩
 rcases m1 with _ | m1
 ·rw [qc2] at hF
  cases hF
 rw [qc2] at hF
 refine zSSR (zp2 rfl (zl 0 2 h rfl (zp2 rfl (qb ?_))))
 refine qq rfl hF ?_ ?_ <;> intro hF
 ·refine zKSBSR (zp1 rfl (zl 0 2 h rfl (zp1 rfl ?_)))
  obtain ⟨y1, hy1, hF⟩ := qd hF
  have he1 := qg hy1
  obtain ⟨b2, o_1, q1, cs2, hp1, hq1, -, hr1, hc3⟩ := s3.at hy1
  obtain rfl := hr1
  refine zxe hp1 hq1 he1 rfl (zc 0 (hc3.below h.below) rfl ?_)
  obtain ⟨r1, hr2, hF⟩ := qd hF
  refine ql r1 h call35 (qaf hr2) rfl rfl rfl rfl ?_
  intro w3 h
  refine zp1 rfl (qb ?_)
  refine qq rfl hF ?_ ?_ <;> intro hF
  ·refine zSR (zp1 rfl (qb ?_))
   obtain rfl := qj hF; replace hF := hK1
   exact qu qc h hF ⟨rfl, trivial⟩
  exact zKER (zp3 rfl (qb (qA m1 [(1, _), (3, _)] (Nat.lt_succ_self m1) ⟨rfl, rfl, trivial⟩ ⟨_, hF, rfl, h⟩)))
 refine qI rfl ?_
 obtain rfl := qj hF; replace hF := hK1
 exact zSR (zp1 rfl (qb (qu qc h hF ⟨rfl, trivial⟩)))

def qbE (t : qF) : Nat → Int → Int → Int → Option (Int × Int × Int)
 | 0, _, _, _ => none
 | n + 1, i1, i2, i3 =>
  bif decide (i3 < (t.Values.length : Int)) then
   (idx t.Values i3).bind fun y3 =>
   (idx t.Values i3).bind fun y4 =>
   qbE t n (if y3 < i1 then y3 else i1) (if y4 > i2 then y4 else i2) (W64 (i3 + 1))
  else
   some (i1, i2, i3)

def qeH (n : Nat) (t : qF) : Option (qhI × Int) :=
 (qgC n t).bind fun r1 =>
 bif (!r1) then
  some ((⟨0, 0⟩ : qhI), 1)
 else
  (idx t.Values 0).bind fun y1 =>
  (idx t.Values 0).bind fun y2 =>
  (qbE t n y1 y2 1).bind fun o => match o with
  | (i1, i2, _) =>
   some ((⟨i1, i2⟩ : qhI), 0)

theorem qjA {n : Nat} {w : World} {t : qF} {cs1 : List Value} (ha1 : GoT.R w (old w) t cs1) {r : (qhI × Int)} (hF : qeH n t = some r) : RetV Tryz.prog 188 [GoT.v qF cs1] w r := by
 obtain ⟨p1, k1, p2, k2, p3, k3, rfl, s1, s2, s3⟩ := qbD ha1
 refine qe Tryz.func188 rfl (m := 45) rfl rfl (fun h => ?_)
 rw [qeH] at hF
 refine zSR (qM h rfl rfl ?_)
 intro w1 bb1 h
 refine qU qc h rfl rfl rfl ?_
 intro w2 bb2 h
 refine zp1 rfl (zNSSR (zl 1 0 h rfl ?_))
 obtain ⟨r1, hr1, hF⟩ := qd hF
 refine ql r1 h call204 (qkS (h.old ha1) hr1) rfl rfl rfl rfl ?_
 intro w3 h
 refine zp1 rfl (qb ?_)
 refine qq rfl hF ?_ ?_ <;> intro hF
 ·refine zSR (r_v (qgr qc [] [] rfl rfl rfl rfl rfl rfl rfl rfl) rfl (zs 0 h rfl ?_))
  intro w4 h
  refine zp1 rfl (qb ?_)
  obtain rfl := qj hF
  exact qap qc (ρ := (qhI × Int)) [GoT.v qhI [.int .i64 0, .int .i64 0], GoT.v Int [.int .i64 1]] h ⟨⟨_, _, _, rfl, rfl, h.box 0 rfl, rfl⟩, rfl, trivial⟩ (PV.done h (qha h (qbl (S := fun _ => False) (qmk (⟨0, 0⟩ : qhI))) (qav (qbl (S := fun _ => False) rfl)) (by rfl)))
 refine zKS ?_
 refine qeO [] (fun w' => SH w w' [Ch.box bb1 [.slice p1 t.Slews.length k1, .slice p2 t.Loads.length k2, .slice p3 t.Values.length k3] 238]) rfl 11 rfl #[ff, ff, ff, ff, ff, ff, ff, ff, ff, ff, ff] (by kernel_rfl) (fun w5 hb => ?_)
 replace h := h.ext hb
 clear hb
 refine qi 0 rfl #[tt, ff, ff, ff, ff, ff, ff, ff, ff, ff, ff] (by kernel_rfl) (by kernel_rfl) (fun w' hw => v_p qc rfl w') (h.pick [1] rfl) rfl ?_
 refine qi 1 rfl #[tt, tt, ff, ff, ff, ff, ff, ff, ff, ff, ff] (by kernel_rfl) (by kernel_rfl) (fun w' hw => qbj qc (hw.box 0 rfl) (j := 2) rfl rfl rfl) (h.pick [1] rfl) rfl ?_
 obtain ⟨y1, hy1, hF⟩ := qd hF
 have he1 := qg hy1
 obtain ⟨b1, o_1, q1, cs2, hp1, hq1, -, hr2, hc2⟩ := s3.at hy1
 obtain rfl := hr2
 refine qi 2 rfl #[tt, tt, tt, ff, ff, ff, ff, ff, ff, ff, ff] (by kernel_rfl) (by kernel_rfl) (fun w' hw => qe3 qc hp1 hq1 ⟨he1.1, he1.2.1⟩ rfl rfl rfl rfl rfl rfl) (h.pick [1] rfl) rfl ?_
 refine qi 3 rfl #[tt, tt, tt, tt, ff, ff, ff, ff, ff, ff, ff] (by kernel_rfl) (by kernel_rfl) (fun w' hw => qbj qc (hc2.below hw.below) (j := 0) rfl rfl rfl) (h.pick [1] rfl) rfl ?_
 refine qi 4 rfl #[tt, tt, tt, tt, tt, ff, ff, ff, ff, ff, ff] (by kernel_rfl) (by kernel_rfl) (fun w' hw => v_p qc rfl w') (h.pick [1] rfl) rfl ?_
 refine qi 5 rfl #[tt, tt, tt, tt, tt, tt, ff, ff, ff, ff, ff] (by kernel_rfl) (by kernel_rfl) (fun w' hw => qbj qc (hw.box 0 rfl) (j := 2) rfl rfl rfl) (h.pick [1] rfl) rfl ?_
 obtain ⟨y2, hy2, hF⟩ := qd hF
 have he2 := qg hy2
 obtain ⟨b2, o_2, q2, cs3, hp2, hq2, -, hr3, hc3⟩ := s3.at hy2
 obtain rfl := hr3
 refine qi 6 rfl #[tt, tt, tt, tt, tt, tt, tt, ff, ff, ff, ff] (by kernel_rfl) (by kernel_rfl) (fun w' hw => qe3 qc hp2 hq2 ⟨he2.1, he2.2.1⟩ rfl rfl rfl rfl rfl rfl) (h.pick [1] rfl) rfl ?_
 refine qi 7 rfl #[tt, tt, tt, tt, tt, tt, tt, tt, ff, ff, ff] (by kernel_rfl) (by kernel_rfl) (fun w' hw => qbj qc (hc3.below hw.below) (j := 0) rfl rfl rfl) (h.pick [1] rfl) rfl ?_
 refine qi 8 rfl #[tt, tt, tt, tt, tt, tt, tt, tt, tt, ff, ff] (by kernel_rfl) (by kernel_rfl) (fun w' hw => qgr qc [0, 1] [.tmp 13, .tmp 17] rfl rfl rfl rfl rfl rfl rfl rfl) (h.pick [1] rfl) rfl ?_
 refine qab 9 rfl #[tt, tt, tt, tt, tt, tt, tt, tt, tt, tt, ff] (by kernel_rfl) (by kernel_rfl) ?_
 refine qU qc h rfl rfl rfl ?_
 intro w6 bb3 h
 refine qW (fun _ => (h.pick [2] rfl)) ?_
 refine qab 10 rfl #[tt, tt, tt, tt, tt, tt, tt, tt, tt, tt, tt] (by kernel_rfl) (by kernel_rfl) ?_
 refine zs 0 h rfl ?_
 intro w7 h
 refine qW (fun _ => (h.pick [2] rfl)) ?_
 refine qcp (by kernel_rfl) ?_
 refine zSSR (zp1 rfl (qb ?_))
 obtain ⟨o1, hF, hK1⟩ := qd hF
 refine qz (qT [(1, _), (2, _), (4, _), (5, _)] ⟨rfl, rfl, rfl, rfl, trivial⟩ ?_)
 refine qH (fun m e w' => ∃ (i1 : Int) (i2 : Int) (i3 : Int), qbE t m i1 i2 i3 = some o1 ∧ e = [(1, .pointer (some ⟨bb1, 0, none⟩)), (2, .pointer (some ⟨bb2, 0, none⟩)), (4, .pointer (some ⟨bb3, 0, none⟩)), (5, .int .i64 i3)] ∧ SH w w' [Ch.box bb3 [.int .i64 i1, .int .i64 i2] 249, Ch.box bb2 [.int .i64 0, .int .i64 0] 249, Ch.box bb1 [.slice p1 t.Slews.length k1, .slice p2 t.Loads.length k2, .slice p3 t.Values.length k3] 238]) n ⟨_, _, _, hF, rfl, h⟩ ?_
 rintro m1 e1 w8 ⟨i1, i2, i3, hF, rfl, h⟩
 rcases m1 with _ | m1
 ·rw [qbE] at hF
  cases hF
 rw [qbE] at hF
 refine zSSR (zp2 rfl (zl 2 2 h rfl (zp2 rfl (qb ?_))))
 refine qq rfl hF ?_ ?_ <;> intro hF
 ·refine zKSB (qbn ?_)
  refine qeO [9] (fun w' => SH w w' [Ch.box bb3 [.int .i64 i1, .int .i64 i2] 249, Ch.box bb1 [.slice p1 t.Slews.length k1, .slice p2 t.Loads.length k2, .slice p3 t.Values.length k3] 238]) rfl 10 rfl #[ff, ff, ff, ff, ff, ff, ff, ff, ff, ff] (by kernel_rfl) (fun w9 hb => ?_)
  replace h := h.ext hb
  clear hb
  refine qi 0 rfl #[tt, ff, ff, ff, ff, ff, ff, ff, ff, ff] (by kernel_rfl) (by kernel_rfl) (fun w' hw => v_p qc rfl w') (h.pick [0, 2] rfl) rfl ?_
  refine qi 1 rfl #[tt, tt, ff, ff, ff, ff, ff, ff, ff, ff] (by kernel_rfl) (by kernel_rfl) (fun w' hw => qbj qc (hw.box 0 rfl) (j := 0) rfl rfl rfl) (h.pick [0, 2] rfl) rfl ?_
  refine qi 2 rfl #[tt, tt, tt, ff, ff, ff, ff, ff, ff, ff] (by kernel_rfl) (by kernel_rfl) (fun w' hw => v_p qc rfl w') (h.pick [0, 2] rfl) rfl ?_
  refine qi 3 rfl #[tt, tt, tt, tt, ff, ff, ff, ff, ff, ff] (by kernel_rfl) (by kernel_rfl) (fun w' hw => qbj qc (hw.box 1 rfl) (j := 2) rfl rfl rfl) (h.pick [0, 2] rfl) rfl ?_
  refine qi 4 rfl #[tt, tt, tt, tt, tt, ff, ff, ff, ff, ff] (by kernel_rfl) (by kernel_rfl) (fun w' hw => v_p qc rfl w') (h.pick [0, 2] rfl) rfl ?_
  obtain ⟨y3, hy3, hF⟩ := qd hF
  have he3 := qg hy3
  obtain ⟨b3, o_3, q3, cs4, hp3, hq3, -, hr4, hc5⟩ := s3.at hy3
  obtain rfl := hr4
  refine qi 5 rfl #[tt, tt, tt, tt, tt, tt, ff, ff, ff, ff] (by kernel_rfl) (by kernel_rfl) (fun w' hw => qe3 qc hp3 hq3 ⟨he3.1, he3.2.1⟩ rfl rfl rfl rfl rfl rfl) (h.pick [0, 2] rfl) rfl ?_
  refine qi 6 rfl #[tt, tt, tt, tt, tt, tt, tt, ff, ff, ff] (by kernel_rfl) (by kernel_rfl) (fun w' hw => qbj qc (hc5.below hw.below) (j := 0) rfl rfl rfl) (h.pick [0, 2] rfl) rfl ?_
  refine qi 7 rfl #[tt, tt, tt, tt, tt, tt, tt, tt, ff, ff] (by kernel_rfl) (by kernel_rfl) (fun w' hw => v_p qc rfl w') (h.pick [0, 2] rfl) rfl ?_
  refine qi 8 rfl #[tt, tt, tt, tt, tt, tt, tt, tt, tt, ff] (by kernel_rfl) (by kernel_rfl) (fun w' hw => v_p qc rfl w') (h.pick [0, 2] rfl) rfl ?_
  refine qab 9 rfl #[tt, tt, tt, tt, tt, tt, tt, tt, tt, tt] (by kernel_rfl) (by kernel_rfl) ?_
  refine zs 0 h rfl ?_
  intro w10 h
  refine qW (fun hs => absurd (hs 9 (by decide)) (by decide)) ?_
  refine qcp (by kernel_rfl) ?_
  refine qeO [9] (fun w' => SH w w' [Ch.box bb3 [.int .i64 (if y3 < i1 then y3 else i1), .int .i64 i2] 249, Ch.box bb1 [.slice p1 t.Slews.length k1, .slice p2 t.Loads.length k2, .slice p3 t.Values.length k3] 238]) rfl 10 rfl #[ff, ff, ff, ff, ff, ff, ff, ff, ff, ff] (by kernel_rfl) (fun w11 hb => ?_)
  replace h := h.ext hb
  clear hb
  refine qi 0 rfl #[tt, ff, ff, ff, ff, ff, ff, ff, ff, ff] (by kernel_rfl) (by kernel_rfl) (fun w' hw => v_p qc rfl w') (h.pick [0, 2] rfl) rfl ?_
  refine qi 1 rfl #[tt, tt, ff, ff, ff, ff, ff, ff, ff, ff] (by kernel_rfl) (by kernel_rfl) (fun w' hw => qbj qc (hw.box 0 rfl) (j := 1) rfl rfl rfl) (h.pick [0, 2] rfl) rfl ?_
  refine qi 2 rfl #[tt, tt, tt, ff, ff, ff, ff, ff, ff, ff] (by kernel_rfl) (by kernel_rfl) (fun w' hw => v_p qc rfl w') (h.pick [0, 2] rfl) rfl ?_
  refine qi 3 rfl #[tt, tt, tt, tt, ff, ff, ff, ff, ff, ff] (by kernel_rfl) (by kernel_rfl) (fun w' hw => qbj qc (hw.box 1 rfl) (j := 2) rfl rfl rfl) (h.pick [0, 2] rfl) rfl ?_
  refine qi 4 rfl #[tt, tt, tt, tt, tt, ff, ff, ff, ff, ff] (by kernel_rfl) (by kernel_rfl) (fun w' hw => v_p qc rfl w') (h.pick [0, 2] rfl) rfl ?_
  obtain ⟨y4, hy4, hF⟩ := qd hF
  have he4 := qg hy4
  obtain ⟨b4, o_4, q4, cs5, hp4, hq4, -, hr5, hc6⟩ := s3.at hy4
  obtain rfl := hr5
  refine qi 5 rfl #[tt, tt, tt, tt, tt, tt, ff, ff, ff, ff] (by kernel_rfl) (by kernel_rfl) (fun w' hw => qe3 qc hp4 hq4 ⟨he4.1, he4.2.1⟩ rfl rfl rfl rfl rfl rfl) (h.pick [0, 2] rfl) rfl ?_
  refine qi 6 rfl #[tt, tt, tt, tt, tt, tt, tt, ff, ff, ff] (by kernel_rfl) (by kernel_rfl) (fun w' hw => qbj qc (hc6.below hw.below) (j := 0) rfl rfl rfl) (h.pick [0, 2] rfl) rfl ?_
  refine qi 7 rfl #[tt, tt, tt, tt, tt, tt, tt, tt, ff, ff] (by kernel_rfl) (by kernel_rfl) (fun w' hw => v_p qc rfl w') (h.pick [0, 2] rfl) rfl ?_
  refine qi 8 rfl #[tt, tt, tt, tt, tt, tt, tt, tt, tt, ff] (by kernel_rfl) (by kernel_rfl) (fun w' hw => v_p qc rfl w') (h.pick [0, 2] rfl) rfl ?_
  refine qab 9 rfl #[tt, tt, tt, tt, tt, tt, tt, tt, tt, tt] (by kernel_rfl) (by kernel_rfl) ?_
  refine zs 0 h rfl ?_
  intro w12 h
  refine qW (fun hs => absurd (hs 9 (by decide)) (by decide)) ?_
  refine qcp (by kernel_rfl) ?_
  exact qfL (qE (zp3 rfl (qb (qA m1 [(1, _), (2, _), (4, _), (5, _)] (Nat.lt_succ_self m1) ⟨rfl, rfl, rfl, rfl, trivial⟩ ⟨_, _, _, hF, rfl, h⟩))))
 refine qI rfl ?_
 obtain rfl := qj hF; replace hF := hK1
 refine zSR (zl 0 0 h rfl (zs 1 h rfl ?_))
 intro w13 h
 replace h : SH _ _ [Ch.box bb3 [.int .i64 i1, .int .i64 i2] 249, Ch.box bb2 [.int .i64 i1, .int .i64 i2] 249, Ch.box bb1 [.slice p1 t.Slews.length k1, .slice p2 t.Loads.length k2, .slice p3 t.Values.length k3] 238] := h
 refine zp1 rfl (qb ?_)
 obtain rfl := qj hF
 exact qap qc (ρ := (qhI × Int)) [GoT.v qhI [.int .i64 i1, .int .i64 i2], GoT.v Int [.int .i64 0]] h ⟨⟨_, _, _, rfl, rfl, h.box 1 rfl, rfl⟩, rfl, trivial⟩ (PV.done h (qha h (qbl (S := fun _ => False) (qmk (⟨i1, i2⟩ : qhI))) (qav (qbl (S := fun _ => False) rfl)) (by rfl)))

def qbQ (list : (List qF)) (positive : Bool) : Nat → Int → Option (Flow Bool Int)
 | 0, _ => none
 | n + 1, i1 =>
  bif decide (i1 < 2) then
   (idx list i1).bind fun y1 =>
   (qeH n y1).bind fun o => match o with
    | (r2, r3) =>
     bif (r3 != 0) then
      some (.ret false)
     else
      bif positive then
       bif decide (r2.Early < 0) then
        some (.ret false)
       else
        qbQ list positive n (W64 (i1 + 1))
      else
       qbQ list positive n (W64 (i1 + 1))
  else
   some (.nxt i1)

def qcF (n : Nat) (list : (List qF)) (positive : Bool) : Option Bool :=
 bif ((list.length : Int) != 2) then
  some false
 else
  (qbQ list positive n 0).bind fun o => match o with
  | .ret r => some r
  | .nxt _ =>
   some true

theorem qeo {n : Nat} {w : World} {list : (List qF)} {positive : Bool} {cs1 : List Value} (ha1 : GoT.R w (old w) list cs1) {r : Bool} (hF : qcF n list positive = some r) : RetV Tryz.prog 178 [GoT.v (List qF) cs1, .bool positive] w r := by
 obtain ⟨p1, k1, rfl, s1⟩ := ha1
 refine qe Tryz.func178 rfl (m := 33) rfl rfl (fun h => ?_)
 rw [qcF] at hF
 refine zSR (zp1 rfl (zNSSR (zp3 rfl (qb ?_))))
 refine qq rfl hF ?_ ?_ <;> intro hF
 ·exact zSR (zp1 rfl (qb (qu qc h hF ⟨rfl, trivial⟩)))
 refine zKSSR (zp1 rfl (qb ?_))
 obtain ⟨o1, hF, hK1⟩ := qd hF
 refine qz (qT [(0, _), (1, _), (5, _)] ⟨rfl, rfl, rfl, trivial⟩ ?_)
 refine qH (fun m e w' => ∃ (i1 : Int), qbQ list positive m i1 = some o1 ∧ e = [(0, .slice p1 list.length k1), (1, .bool positive), (5, .int .i64 i1)] ∧ SH w w' []) n ⟨_, hF, rfl, h⟩ ?_
 rintro m1 e1 w1 ⟨i1, hF, rfl, h⟩
 rcases m1 with _ | m1
 ·rw [qbQ] at hF
  cases hF
 rw [qbQ] at hF
 refine zSSR (zp2 rfl (qb ?_))
 refine qq rfl hF ?_ ?_ <;> intro hF
 ·refine zKSBSR (zp2 rfl ?_)
  obtain ⟨y1, hy1, hF⟩ := qd hF
  have he1 := qg hy1
  obtain ⟨b1, o_1, q1, cs2, hp1, hq1, -, hr1, hc3⟩ := s1.at hy1
  obtain ⟨p2, k2, p3, k3, p4, k4, rfl, s2, s3, s4⟩ := qbD hr1
  refine zxe hp1 hq1 he1 rfl (zc 0 (hc3.below h.below) rfl ?_)
  obtain ⟨r1, hr2, hF⟩ := qd hF
  obtain ⟨r2, r3⟩ := r1
  refine qie (r2, r3) h call188 (qjA (qgV y1 (h.oldS s2) (h.oldS s3) (h.oldS s4)) hr2) rfl rfl rfl rfl ?_
  intro w2 S1 us1 hv1 hr3
  obtain ⟨S2, S3, cs3, us2, rfl, hv2, hr4⟩ := hv1.cons hr3
  obtain rfl := qnS (hv2.sh.own 0 rfl)
  obtain ⟨rfl, h⟩ := hv2.lastI hr4
  refine zp3 rfl (qU qc h rfl rfl rfl ?_)
  intro w3 bb1 h
  refine zs 0 h rfl ?_
  intro w4 h
  refine zp1 rfl (zNSR (zp3 rfl ?_))
  by_cases hc4 : (r3 != 0) = true
  ·replace hF := bifT hc4 hF
   refine qC hc4 (t := 25) rfl (zn5 rfl (zn1 rfl (zp1 rfl (qb (qef rfl rfl (zSR ?_))))))
   refine zp1 rfl (qb ?_)
   obtain rfl := qj hF; replace hF := hK1
   exact qu qc h hF ⟨rfl, trivial⟩
  replace hc4 := zb hc4
  replace hF := bifF hc4 hF
  refine qB hc4 (t := 25) rfl (qa rfl (zp1 rfl (qa rfl (zp1 rfl ?_))))
  by_cases hc5 : positive = true
  ·replace hF := bifT hc5 hF
   refine qC hc5 (t := 27) rfl (qa rfl (zp1 rfl (qa rfl (zl 0 0 h rfl (qa rfl (zp1 rfl (qa rfl (zp2 rfl (qb ?_)))))))))
   refine qq rfl hF ?_ ?_ <;> intro hF
   ·refine zSR (zp1 rfl (qb ?_))
    obtain rfl := qj hF; replace hF := hK1
    exact qu qc h hF ⟨rfl, trivial⟩
   refine zKER (zp3 rfl (qb ?_))
   replace h := h.pick [] rfl
   exact qA m1 [(0, _), (1, _), (5, _)] (Nat.lt_succ_self m1) ⟨rfl, rfl, rfl, trivial⟩ ⟨_, hF, rfl, h⟩
  replace hc5 := zb hc5
  replace hF := bifF hc5 hF
  refine qB hc5 (t := 27) rfl (zn3 rfl (qa rfl (zp2 rfl (qb (qc3 rfl rfl (zKER ?_))))))
  refine zp3 rfl (qb ?_)
  replace h := h.pick [] rfl
  exact qA m1 [(0, _), (1, _), (5, _)] (Nat.lt_succ_self m1) ⟨rfl, rfl, rfl, trivial⟩ ⟨_, hF, rfl, h⟩
 refine qI rfl ?_
 obtain rfl := qj hF; replace hF := hK1
 exact zSR (zp1 rfl (qb (qu qc h hF ⟨rfl, trivial⟩)))

def qhk (n : Nat) (a_0 : qD) (a_1 : qac) : Option Bool :=
 (
  (qam n a_1.From 0 (W64 ((W64 ((a_0.Pins.length : Int) - 1)) - 1))).bind fun r7 =>
  bif (!r7) then
   some true
  else
   (qam n a_1.To 0 (W64 ((a_0.Pins.length : Int) - 1))).bind fun r8 =>
   some (!r8)).bind fun b1 =>
 bif b1 then
  some false
 else
  (idx a_0.Pins a_1.From).bind fun y1 =>
  bif (a_1.Kind == 1) then
   bif (!y1.Clock) then
    bif (a_1.To == (W64 ((a_0.Pins.length : Int) - 1))) then
     (qam n a_1.Sense 1 3).bind fun r1 =>
     bif r1 then
      (qcF n a_1.Delay true).bind fun r2 =>
      bif r2 then
       (qcF n a_1.Slew true).bind fun r3 =>
       some r3
      else
       some false
     else
      some false
    else
     some false
   else
    some false
  else
   (
    bif (a_1.Kind == 2) then
     some (a_1.Kind == 2)
    else
     some (a_1.Kind == 3)).bind fun b3 =>
   bif b3 then
    bif y1.Clock then
     bif (a_1.To == (W64 ((a_0.Pins.length : Int) - 1))) then
      bif (a_1.Sense == 0) then
       (qcF n a_1.Delay true).bind fun r4 =>
       bif r4 then
        (qcF n a_1.Slew true).bind fun r5 =>
        some r5
       else
        some false
      else
       some false
     else
      some false
    else
     some false
   else
    (
     bif (a_1.Kind == 4) then
      some (a_1.Kind == 4)
     else
      some (a_1.Kind == 5)).bind fun b4 =>
    bif b4 then
     bif y1.Clock then
      bif decide (a_1.To < (W64 ((a_0.Pins.length : Int) - 1))) then
       (idx a_0.Pins a_1.To).bind fun y2 =>
       bif (!y2.Clock) then
        bif (a_1.Sense == 0) then
         (qcF n a_1.Delay false).bind fun r6 =>
         bif r6 then
          some ((a_1.Slew.length : Int) == 0)
         else
          some false
        else
         some false
       else
        some false
      else
       some false
     else
      some false
    else
     some false

theorem qlr {n : Nat} {w : World} {a_0 : qD} {a_1 : qac} {cs1 : List Value} (ha1 : GoT.R w (old w) a_0 cs1) {cs2 : List Value} (ha2 : GoT.R w (old w) a_1 cs2) {r : Bool} (hF : qhk n a_0 a_1 = some r) : RetV Tryz.prog 166 [GoT.v qD cs1, GoT.v qac cs2] w r := by
 obtain ⟨p1, k1, p2, k2, p3, k3, rfl, s1, s2, s3⟩ := qV ha1
 obtain ⟨p4, k4, p5, k5, rfl, s4, s5⟩ := qat ha2
 refine qe Tryz.func166 rfl (m := 119) rfl rfl (fun h => ?_)
 rw [qhk] at hF
 refine zSR (qM h rfl rfl ?_)
 intro w1 bb1 h
 refine qM h rfl rfl ?_
 intro w2 bb2 h
 refine zp1 rfl (zNSR (zp1 rfl (zl 1 2 h rfl (zp3 rfl (zNSS ?_)))))
 obtain ⟨KF3, hKF3, o3, hF, hK3⟩ := bindE hF
 refine qem (fun e w' => ∃ (b1 : Bool), KF3 b1 = some r ∧ e = [(2, .pointer (some ⟨bb1, 0, none⟩)), (3, .pointer (some ⟨bb2, 0, none⟩)), (5, .int .i64 (W64 ((a_0.Pins.length : Int) - 1))), (23, .bool b1)] ∧ SH w w' [Ch.box bb2 [.int .i64 a_1.Kind, .int .i64 a_1.From, .int .i64 a_1.To, .int .i64 a_1.Sense, .slice p4 a_1.Delay.length k4, .slice p5 a_1.Slew.length k5] 159, Ch.box bb1 [.string a_0.Name, .int .i64 a_0.Kind, .slice p1 a_0.Pins.length k1, .slice p2 a_0.Arcs.length k2, .slice p3 a_0.Truth.length k3, .int .i64 a_0.Leak, .int .i64 a_0.Energy] 155]) ?_ ?_
 ·refine qE (zp1 rfl (zl 0 1 h rfl (zp2 rfl ?_)))
  obtain ⟨r7, hr9, hF⟩ := qd hF
  refine ql r7 h call35 (qaf hr9) rfl rfl rfl rfl ?_
  intro w11 h
  refine zp2 rfl ?_
  by_cases hc22 : (!r7) = true
  ·replace hF := bifT hc22 hF
   refine qC hc22 (t := 17) rfl (zn5 rfl (zp1 rfl (qb ?_)))
   obtain rfl := qj hF
   exact qx [(2, _), (3, _), (5, _), (23, _)] ⟨rfl, rfl, rfl, rfl, trivial⟩ ⟨_, hK3, rfl, h⟩
  replace hc22 := zb hc22
  replace hF := bifF hc22 hF
  refine qB hc22 (t := 17) rfl (qa rfl (zp1 rfl (qa rfl (zl 0 2 h rfl (qa rfl (zp1 rfl (qa rfl ?_)))))))
  obtain ⟨r8, hr10, hF⟩ := qd hF
  refine ql r8 h call35 (qaf hr10) rfl rfl rfl rfl ?_
  intro w12 h
  refine qa rfl (zp2 rfl (qb ?_))
  obtain rfl := qj hF
  exact qx [(2, _), (3, _), (5, _), (23, _)] ⟨rfl, rfl, rfl, rfl, trivial⟩ ⟨_, hK3, rfl, h⟩
 rintro e3 w13 ⟨b1, hF, rfl, h⟩
 subst hKF3
 refine qq rfl hF ?_ ?_ <;> intro hF
 ·exact zSR (zp1 rfl (qb (qu qc h hF ⟨rfl, trivial⟩)))
 refine zKSR (zp1 rfl (zl 1 2 h rfl (zp1 rfl (zl 0 1 h rfl ?_))))
 obtain ⟨y1, hy1, hF⟩ := qd hF
 have he1 := qg hy1
 obtain ⟨b2, o_1, q1, cs3, hp1, hq1, -, hr1, hc2⟩ := s1.at hy1
 obtain rfl := qbq hr1
 refine zxe hp1 hq1 he1 rfl (zp1 rfl (zc 3 (hc2.below h.below) rfl (zp1 rfl (zNSSR (zp1 rfl (zl 0 0 h rfl (qb (qz ?_))))))))
 refine zSR (zp2 rfl (qb ?_))
 refine qq rfl hF ?_ ?_ <;> intro hF
 ·refine zSR (zp3 rfl ?_)
  by_cases hc4 : (!y1.Clock) = true
  ·replace hF := bifT hc4 hF
   refine qC hc4 (t := 37) rfl (qa rfl (zp1 rfl (qa rfl (zl 0 2 h rfl (qa rfl (zp1 rfl (qa rfl (zp3 rfl ?_))))))))
   by_cases hc5 : (a_1.To == (W64 ((a_0.Pins.length : Int) - 1))) = true
   ·replace hF := bifT hc5 hF
    refine qC hc5 (t := 43) rfl (qa rfl (zp1 rfl (qa rfl (zl 0 3 h rfl (qa rfl ?_)))))
    obtain ⟨r1, hr2, hF⟩ := qd hF
    refine ql r1 h call35 (qaf hr2) rfl rfl rfl rfl ?_
    intro w3 h
    refine zp2 rfl ?_
    by_cases hc6 : r1 = true
    ·replace hF := bifT hc6 hF
     refine qC hc6 (t := 48) rfl (qa rfl (zp1 rfl (qa rfl (zl 0 4 h rfl (qa rfl ?_)))))
     obtain ⟨r2, hr3, hF⟩ := qd hF
     refine ql r2 h call178 (qeo ⟨_, _, rfl, (h.oldS s4)⟩ hr3) rfl rfl rfl rfl ?_
     intro w4 h
     refine zp2 rfl ?_
     by_cases hc7 : r2 = true
     ·replace hF := bifT hc7 hF
      refine qC hc7 (t := 53) rfl (qa rfl (zp1 rfl (qa rfl (zl 0 5 h rfl (qa rfl ?_)))))
      obtain ⟨r3, hr4, hF⟩ := qd hF
      refine ql r3 h call178 (qeo ⟨_, _, rfl, (h.oldS s5)⟩ hr4) rfl rfl rfl rfl ?_
      intro w5 h
      exact zp2 rfl (qb (qu qc h hF ⟨rfl, trivial⟩))
     replace hc7 := zb hc7
     replace hF := bifF hc7 hF
     exact qB hc7 (t := 53) rfl (zn3 rfl (zp2 rfl (qb (qu qc h hF ⟨rfl, trivial⟩))))
    replace hc6 := zb hc6
    replace hF := bifF hc6 hF
    refine qB hc6 (t := 48) rfl (zn3 rfl (zp2 rfl (zn3 rfl (zp2 rfl (qb ?_)))))
    exact qu qc h hF ⟨rfl, trivial⟩
   replace hc5 := zb hc5
   replace hF := bifF hc5 hF
   refine qB hc5 (t := 43) rfl (zn3 rfl (zp2 rfl (zn3 rfl (zp2 rfl (zn1 rfl ?_)))))
   exact zn2 rfl (zp2 rfl (qb (qu qc h hF ⟨rfl, trivial⟩)))
  replace hc4 := zb hc4
  replace hF := bifF hc4 hF
  refine qB hc4 (t := 37) rfl (zn4 rfl (zp2 rfl (zn3 rfl (zp2 rfl ?_))))
  exact zn3 rfl (zp2 rfl (zn3 rfl (zp2 rfl (qb (qu qc h hF ⟨rfl, trivial⟩)))))
 refine zSSR (zp2 rfl (qb ?_))
 obtain ⟨KF2, hKF2, o2, hF, hK2⟩ := bindE hF
 refine qem (fun e w' => ∃ (b3 : Bool), KF2 b3 = some r ∧ e = [(2, .pointer (some ⟨bb1, 0, none⟩)), (3, .pointer (some ⟨bb2, 0, none⟩)), (5, .int .i64 (W64 ((a_0.Pins.length : Int) - 1))), (6, .bool y1.Clock), (32, .int .i64 a_1.Kind), (58, .bool b3)] ∧ SH w w' [Ch.box bb2 [.int .i64 a_1.Kind, .int .i64 a_1.From, .int .i64 a_1.To, .int .i64 a_1.Sense, .slice p4 a_1.Delay.length k4, .slice p5 a_1.Slew.length k5] 159, Ch.box bb1 [.string a_0.Name, .int .i64 a_0.Kind, .slice p1 a_0.Pins.length k1, .slice p2 a_0.Arcs.length k2, .slice p3 a_0.Truth.length k3, .int .i64 a_0.Leak, .int .i64 a_0.Energy] 155]) ?_ ?_
 ·refine qq rfl hF ?_ ?_ <;> intro hF
  ·refine qd4 ?_
   obtain rfl := qj hF
   exact qx [(2, _), (3, _), (5, _), (6, _), (32, _), (58, _)] ⟨rfl, rfl, rfl, rfl, rfl, rfl, trivial⟩ ⟨_, hK2, rfl, h⟩
  refine qE (zp2 rfl (qb ?_))
  obtain rfl := qj hF
  exact qx [(2, _), (3, _), (5, _), (6, _), (32, _), (58, _)] ⟨rfl, rfl, rfl, rfl, rfl, rfl, trivial⟩ ⟨_, hK2, rfl, h⟩
 rintro e2 w10 ⟨b3, hF, rfl, h⟩
 subst hKF2
 refine qq rfl hF ?_ ?_ <;> intro hF
 ·refine zSR (zp2 rfl ?_)
  by_cases hc9 : y1.Clock = true
  ·replace hF := bifT hc9 hF
   refine qC hc9 (t := 62) rfl (qa rfl (zp1 rfl (qa rfl (zl 0 2 h rfl (qa rfl (zp1 rfl (qa rfl (zp3 rfl ?_))))))))
   by_cases hc10 : (a_1.To == (W64 ((a_0.Pins.length : Int) - 1))) = true
   ·replace hF := bifT hc10 hF
    refine qC hc10 (t := 68) rfl (qa rfl (zp1 rfl (qa rfl (zl 0 3 h rfl (qa rfl (zp3 rfl ?_))))))
    by_cases hc11 : (a_1.Sense == 0) = true
    ·replace hF := bifT hc11 hF
     refine qC hc11 (t := 73) rfl (qa rfl (zp1 rfl (qa rfl (zl 0 4 h rfl (qa rfl ?_)))))
     obtain ⟨r4, hr5, hF⟩ := qd hF
     refine ql r4 h call178 (qeo ⟨_, _, rfl, (h.oldS s4)⟩ hr5) rfl rfl rfl rfl ?_
     intro w6 h
     refine zp2 rfl ?_
     by_cases hc12 : r4 = true
     ·replace hF := bifT hc12 hF
      refine qC hc12 (t := 78) rfl (qa rfl (zp1 rfl (qa rfl (zl 0 5 h rfl (qa rfl ?_)))))
      obtain ⟨r5, hr6, hF⟩ := qd hF
      refine ql r5 h call178 (qeo ⟨_, _, rfl, (h.oldS s5)⟩ hr6) rfl rfl rfl rfl ?_
      intro w7 h
      exact zp2 rfl (qb (qu qc h hF ⟨rfl, trivial⟩))
     replace hc12 := zb hc12
     replace hF := bifF hc12 hF
     exact qB hc12 (t := 78) rfl (zn3 rfl (zp2 rfl (qb (qu qc h hF ⟨rfl, trivial⟩))))
    replace hc11 := zb hc11
    replace hF := bifF hc11 hF
    refine qB hc11 (t := 73) rfl (zn3 rfl (zp2 rfl (zn3 rfl (zp2 rfl (qb ?_)))))
    exact qu qc h hF ⟨rfl, trivial⟩
   replace hc10 := zb hc10
   replace hF := bifF hc10 hF
   refine qB hc10 (t := 68) rfl (zn3 rfl (zp2 rfl (zn3 rfl (zp2 rfl (zn1 rfl ?_)))))
   exact zn2 rfl (zp2 rfl (qb (qu qc h hF ⟨rfl, trivial⟩)))
  replace hc9 := zb hc9
  replace hF := bifF hc9 hF
  refine qB hc9 (t := 62) rfl (zn4 rfl (zp2 rfl (zn3 rfl (zp2 rfl ?_))))
  exact zn3 rfl (zp2 rfl (zn3 rfl (zp2 rfl (qb (qu qc h hF ⟨rfl, trivial⟩)))))
 refine zSSR (zp2 rfl (qb ?_))
 obtain ⟨KF1, hKF1, o1, hF, hK1⟩ := bindE hF
 refine qem (fun e w' => ∃ (b4 : Bool), KF1 b4 = some r ∧ e = [(2, .pointer (some ⟨bb1, 0, none⟩)), (3, .pointer (some ⟨bb2, 0, none⟩)), (5, .int .i64 (W64 ((a_0.Pins.length : Int) - 1))), (6, .bool y1.Clock), (83, .bool b4)] ∧ SH w w' [Ch.box bb2 [.int .i64 a_1.Kind, .int .i64 a_1.From, .int .i64 a_1.To, .int .i64 a_1.Sense, .slice p4 a_1.Delay.length k4, .slice p5 a_1.Slew.length k5] 159, Ch.box bb1 [.string a_0.Name, .int .i64 a_0.Kind, .slice p1 a_0.Pins.length k1, .slice p2 a_0.Arcs.length k2, .slice p3 a_0.Truth.length k3, .int .i64 a_0.Leak, .int .i64 a_0.Energy] 155]) ?_ ?_
 ·refine qq rfl hF ?_ ?_ <;> intro hF
  ·refine qd4 ?_
   obtain rfl := qj hF
   exact qx [(2, _), (3, _), (5, _), (6, _), (83, _)] ⟨rfl, rfl, rfl, rfl, rfl, trivial⟩ ⟨_, hK1, rfl, h⟩
  refine qE (zp2 rfl (qb ?_))
  obtain rfl := qj hF
  exact qx [(2, _), (3, _), (5, _), (6, _), (83, _)] ⟨rfl, rfl, rfl, rfl, rfl, trivial⟩ ⟨_, hK1, rfl, h⟩
 rintro e1 w9 ⟨b4, hF, rfl, h⟩
 subst hKF1
 refine qq rfl hF ?_ ?_ <;> intro hF
 ·refine zSR (zp2 rfl ?_)
  by_cases hc14 : y1.Clock = true
  ·replace hF := bifT hc14 hF
   refine qC hc14 (t := 87) rfl (qa rfl (zp1 rfl (qa rfl (zl 0 2 h rfl (qa rfl (zp1 rfl (qa rfl (zp3 rfl ?_))))))))
   by_cases hc15 : (decide (a_1.To < (W64 ((a_0.Pins.length : Int) - 1)))) = true
   ·replace hF := bifT hc15 hF
    refine qC hc15 (t := 93) rfl (qa rfl (zp1 rfl (qa rfl (zl 1 2 h rfl (qa rfl (zp1 rfl (qa rfl (zl 0 2 h rfl (qa rfl ?_)))))))))
    obtain ⟨y2, hy2, hF⟩ := qd hF
    have he2 := qg hy2
    obtain ⟨b5, o_2, q2, cs4, hp2, hq2, -, hr7, hc16⟩ := s1.at hy2
    obtain rfl := qbq hr7
    refine zxe hp2 hq2 he2 rfl (qa rfl (zp1 rfl (qa rfl (zc 3 (hc16.below h.below) rfl (qa rfl (zp3 rfl ?_))))))
    by_cases hc17 : (!y2.Clock) = true
    ·replace hF := bifT hc17 hF
     refine qC hc17 (t := 103) rfl (qa rfl (zp1 rfl (qa rfl (zl 0 3 h rfl (qa rfl (zp3 rfl ?_))))))
     by_cases hc18 : (a_1.Sense == 0) = true
     ·replace hF := bifT hc18 hF
      refine qC hc18 (t := 108) rfl (qa rfl (zp1 rfl (qa rfl (zl 0 4 h rfl (qa rfl ?_)))))
      obtain ⟨r6, hr8, hF⟩ := qd hF
      refine ql r6 h call178 (qeo ⟨_, _, rfl, (h.oldS s4)⟩ hr8) rfl rfl rfl rfl ?_
      intro w8 h
      refine zp2 rfl ?_
      by_cases hc19 : r6 = true
      ·replace hF := bifT hc19 hF
       refine qC hc19 (t := 113) rfl (qa rfl (zp1 rfl (qa rfl (zl 0 5 h rfl (qa rfl (zp1 rfl (qa rfl (zp3 rfl (qb ?_)))))))))
       exact qu qc h hF ⟨rfl, trivial⟩
      replace hc19 := zb hc19
      replace hF := bifF hc19 hF
      exact qB hc19 (t := 113) rfl (zn4 rfl (zp2 rfl (qb (qu qc h hF ⟨rfl, trivial⟩))))
     replace hc18 := zb hc18
     replace hF := bifF hc18 hF
     refine qB hc18 (t := 108) rfl (zn3 rfl (zp2 rfl (zn4 rfl (zp2 rfl ?_))))
     exact qb (qu qc h hF ⟨rfl, trivial⟩)
    replace hc17 := zb hc17
    replace hF := bifF hc17 hF
    refine qB hc17 (t := 103) rfl (zn3 rfl (zp2 rfl (zn3 rfl (zp2 rfl (zn1 rfl ?_)))))
    exact zn3 rfl (zp2 rfl (qb (qu qc h hF ⟨rfl, trivial⟩)))
   replace hc15 := zb hc15
   replace hF := bifF hc15 hF
   refine qB hc15 (t := 93) rfl (zn5 rfl (zn3 rfl (zp2 rfl (zn1 rfl ?_))))
   refine zn2 rfl (zp2 rfl (zn3 rfl (zp2 rfl (zn3 rfl ?_))))
   exact zn1 rfl (zp2 rfl (qb (qu qc h hF ⟨rfl, trivial⟩)))
  replace hc14 := zb hc14
  replace hF := bifF hc14 hF
  refine qB hc14 (t := 87) rfl (zn4 rfl (zp2 rfl (zn5 rfl ?_)))
  refine zn3 rfl (zp2 rfl (zn3 rfl (zp2 rfl (zn2 rfl ?_))))
  exact zn1 rfl (zp2 rfl (zn4 rfl (zp2 rfl (qb (qu qc h hF ⟨rfl, trivial⟩)))))
 exact zKE (zSR (zp1 rfl (qb (qu qc h hF ⟨rfl, trivial⟩))))

def qbZ (c : qD) : Nat → (List Int) → Int → Option ((List Int) × Int)
 | 0, _, _ => none
 | n + 1, x2, i1 =>
  bif decide (i1 < (c.Arcs.length : Int)) then
   (idx c.Arcs i1).bind fun y1 =>
   (idx x2 y1.Kind).bind fun y2 =>
   (idx x2 y1.Kind).bind fun _ =>
   qbZ c n (setS x2 y1.Kind (W64 (y2 + 1))) (W64 (i1 + 1))
  else
   some (x2, i1)

def qfT (n : Nat) (c : qD) : Option (List Int) :=
 (mkS 6 (0 : Int)).bind fun x1 =>
 (qbZ c n x1 0).bind fun o => match o with
 | (x2, _) =>
  some x2

theorem qkl {n : Nat} {w : World} {c : qD} {cs1 : List Value} (ha1 : GoT.R w (old w) c cs1) {r : (List Int)} (hF : qfT n c = some r) : RetV Tryz.prog 167 [GoT.v qD cs1] w r := by
 obtain ⟨p1, k1, p2, k2, p3, k3, rfl, s1, s2, s3⟩ := qV ha1
 refine qe Tryz.func167 rfl (m := 25) rfl rfl (fun h => ?_)
 rw [qfT] at hF
 refine zSR (qM h rfl rfl ?_)
 intro w1 bb1 h
 refine zp1 rfl (zNSR ?_)
 obtain ⟨x1, hx1, hF⟩ := qd hF
 obtain ⟨g1, g2, hx1⟩ := qdG hx1
 refine qeu qc Int h rfl rfl rfl rfl rfl rfl rfl rfl rfl g1 g2 hx1 rfl ?_
 intro w2 S1 p4 h
 refine zp1 rfl (zNSSR (zp1 rfl (qb ?_)))
 obtain ⟨o1, hF, hK1⟩ := qd hF
 refine qz (qT [(1, _), (3, _), (4, _)] ⟨rfl, rfl, rfl, trivial⟩ ?_)
 refine qH (fun m e w' => ∃ (x2 : (List Int)) (i1 : Int), qbZ c m x2 i1 = some o1 ∧ e = [(1, .pointer (some ⟨bb1, 0, none⟩)), (3, .slice p4 x1.length x1.length), (4, .int .i64 i1)] ∧ SH w w' [Ch.own S1 (x2 : List Int) [.slice p4 x1.length x1.length], Ch.box bb1 [.string c.Name, .int .i64 c.Kind, .slice p1 c.Pins.length k1, .slice p2 c.Arcs.length k2, .slice p3 c.Truth.length k3, .int .i64 c.Leak, .int .i64 c.Energy] 155]) n ⟨_, _, hF, rfl, h⟩ ?_
 rintro m1 e1 w3 ⟨x2, i1, hF, rfl, h⟩
 rcases m1 with _ | m1
 ·rw [qbZ] at hF
  cases hF
 rw [qbZ] at hF
 refine zSSR (zp2 rfl (zl 1 3 h rfl (zp2 rfl (qb ?_))))
 refine qq rfl hF ?_ ?_ <;> intro hF
 ·refine zKSBR (zp2 rfl (zl 1 3 h rfl (zp1 rfl ?_)))
  obtain ⟨y1, hy1, hF⟩ := qd hF
  have he1 := qg hy1
  obtain ⟨b1, o_1, q1, cs2, hp1, hq1, -, hr1, hc2⟩ := s2.at hy1
  obtain ⟨p5, k4, p6, k5, rfl, s4, s5⟩ := qat hr1
  refine zxe hp1 hq1 he1 rfl (zp1 rfl (zc 0 (hc2.below h.below) rfl ?_))
  obtain ⟨y2, hy2, hF⟩ := qd hF
  have he2 := qg hy2
  obtain ⟨b2, o_2, q2, cs3, hp2, hq2, -, hr2, hc3⟩ := (h.sl 0 rfl).1.at hy2
  obtain rfl := hr2
  refine zx hp2 hq2 ⟨he2.1, qa0 he2.2.1 (h.sl 0 rfl).2⟩ rfl (zc 0 hc3 rfl (zp1 rfl ?_))
  obtain ⟨y3, hy3, hF⟩ := qd hF
  have he3 := qg hy3
  obtain ⟨b3, o_3, q3, cs4, hp3, hq3, -, hr3, hc4⟩ := (h.sl 0 rfl).1.at hy3
  obtain rfl := hr3
  refine zx hp3 hq3 ⟨he3.1, qa0 he3.2.1 (h.sl 0 rfl).2⟩ rfl (qfj qc 0 0 (W64 (y2 + 1)) h rfl hy3 hp3 hq3 rfl hc4 rfl rfl rfl rfl rfl rfl rfl ?_)
  intro w4 h
  exact zNER (zp3 rfl (qb (qA m1 [(1, _), (3, _), (4, _)] (Nat.lt_succ_self m1) ⟨rfl, rfl, rfl, trivial⟩ ⟨_, _, hF, rfl, h⟩)))
 refine qI rfl ?_
 obtain rfl := qj hF; replace hF := hK1
 refine zSR (zp2 rfl (qb ?_))
 obtain rfl := qj hF
 exact qap qc (ρ := (List Int)) [GoT.v (List Int) [.slice p4 x1.length x1.length]] h ⟨rfl, trivial⟩ (PV.done h (qav (qaz 0 h rfl)))

end Go.Fw


namespace Go.Fw
open Go Go.Proofs
open Go.RowKit (Below)
set_option maxRecDepth 100000
def qcg (a_0 : qD) (i1 : Int) (y1 : qac) : Nat → Int → Option (Flow Bool Int)
 | 0, _ => none
 | n + 1, i2 =>
  bif decide (i2 < i1) then
   (idx a_0.Arcs i2).bind fun y2 =>
   bif (y2.Kind == y1.Kind) then
    (idx a_0.Arcs i2).bind fun y3 =>
    bif (y3.From == y1.From) then
     (idx a_0.Arcs i2).bind fun y4 =>
     bif (y4.To == y1.To) then
      some (.ret false)
     else
      qcg a_0 i1 y1 n (W64 (i2 + 1))
    else
     qcg a_0 i1 y1 n (W64 (i2 + 1))
   else
    qcg a_0 i1 y1 n (W64 (i2 + 1))
  else
   some (.nxt i2)

def qdi (a_0 : qD) : Nat → Int → Option (Flow Bool Int)
 | 0, _ => none
 | n + 1, i3 =>
  bif decide (i3 < (a_0.Truth.length : Int)) then
   (idx a_0.Truth i3).bind fun y5 =>
   (qam n y5 0 1).bind fun r6 =>
   bif (!r6) then
    some (.ret false)
   else
    qdi a_0 n (W64 (i3 + 1))
  else
   some (.nxt i3)

def qdm (a_0 : qD) : Nat → Int → Option (Flow Bool Int)
 | 0, _ => none
 | n + 1, i1 =>
  bif decide (i1 < (a_0.Arcs.length : Int)) then
   (idx a_0.Arcs i1).bind fun y1 =>
   (qhk n a_0 y1).bind fun r4 =>
   bif (!r4) then
    some (.ret false)
   else
    (qcg a_0 i1 y1 n 0).bind fun o => match o with
    | .ret r => some (.ret r)
    | .nxt _ =>
     qdm a_0 n (W64 (i1 + 1))
  else
   some (.nxt i1)

def qhb (n : Nat) (a_0 : qD) : Option Bool :=
 (qgv n a_0).bind fun o => match o with
  | (r2, r3) =>
   (
    bif (!r3) then
     some true
    else
     (qeT n a_0.Name).bind fun r7 =>
     bif (!r7) then
      some true
     else
      bif decide ((a_0.Arcs.length : Int) > 8) then
       some true
      else
       (qam n a_0.Leak 0 100000).bind fun r8 =>
       bif (!r8) then
        some true
       else
        (qam n a_0.Energy 0 100000).bind fun r9 =>
        some (!r9)).bind fun b1 =>
   bif b1 then
    some false
   else
    (qdm a_0 n 0).bind fun o => match o with
    | .ret r => some r
    | .nxt _ =>
     (qfT n a_0).bind fun r5 =>
     bif (a_0.Kind == 1) then
      (qdi a_0 n 0).bind fun o => match o with
      | .ret r => some r
      | .nxt _ =>
       bif (r2 == 0) then
        (shlS 1 (IntKind.wrap .u64 (W64 ((a_0.Pins.length : Int) - 1)))).bind fun y6 =>
        some ((a_0.Truth.length : Int) == y6)
       else
        some false
     else
      bif (a_0.Kind == 2) then
       bif (r2 == 1) then
        (idx r5 1).bind fun y7 =>
        bif (y7 == 0) then
         (idx r5 2).bind fun y8 =>
         (idx r5 3).bind fun y9 =>
         bif (!((decide (y8 > 0)) == (decide (y9 > 0)))) then
          some ((a_0.Truth.length : Int) == 0)
         else
          some false
        else
         some false
       else
        some false
      else
       bif (a_0.Kind == 3) then
        bif (r2 == 1) then
         (idx r5 1).bind fun y10 =>
         bif decide (y10 > 0) then
          (idx r5 2).bind fun y11 =>
          bif decide (y11 > 0) then
           (idx r5 3).bind fun y12 =>
           bif (y12 == 0) then
            some ((a_0.Truth.length : Int) == 0)
           else
            some false
          else
           some false
         else
          some false
        else
         some false
       else
        some false

theorem qlj {n : Nat} {w : World} {a_0 : qD} {cs1 : List Value} (ha1 : GoT.R w (old w) a_0 cs1) {r : Bool} (hF : qhb n a_0 = some r) : RetV Tryz.prog 149 [GoT.v qD cs1] w r := by
 obtain ⟨p1, k1, p2, k2, p3, k3, rfl, s1, s2, s3⟩ := qV ha1
 refine qe Tryz.func149 rfl (m := 182) rfl rfl (fun h => ?_)
 rw [qhb] at hF
 refine zSR (qM h rfl rfl ?_)
 intro w1 bb1 h
 refine zp1 rfl (zNSR (zl 0 0 h rfl ?_))
 obtain ⟨r1, hr1, hF⟩ := qd hF
 obtain ⟨r2, r3⟩ := r1
 refine qie (r2, r3) h call165 (qk1 (h.old ha1) hr1) rfl rfl rfl rfl ?_
 intro w2 S1 us1 hv1 hr2
 obtain ⟨S2, us2, rfl, hv2, hr3⟩ := hv1.consI hr2
 obtain ⟨rfl, h⟩ := hv2.lastB hr3
 refine zp5 rfl (zNSS ?_)
 obtain ⟨KF1, hKF1, o4, hF, hK4⟩ := bindE hF
 refine qem (fun e w' => ∃ (b1 : Bool), KF1 b1 = some r ∧ e = [(1, .pointer (some ⟨bb1, 0, none⟩)), (3, .int .i64 r2), (40, .bool b1)] ∧ SH w w' [Ch.box bb1 [.string a_0.Name, .int .i64 a_0.Kind, .slice p1 a_0.Pins.length k1, .slice p2 a_0.Arcs.length k2, .slice p3 a_0.Truth.length k3, .int .i64 a_0.Leak, .int .i64 a_0.Energy] 155]) ?_ ?_
 ·refine qE (zp3 rfl ?_)
  by_cases hc32 : (!r3) = true
  ·replace hF := bifT hc32 hF
   refine qC hc32 (t := 17) rfl (zn4 rfl (zp2 rfl (zn4 rfl (zp1 rfl ?_))))
   refine zp1 rfl (zn4 rfl (zp2 rfl (zn4 rfl (zp1 rfl ?_))))
   refine qb ?_
   obtain rfl := qj hF
   exact qx [(1, _), (3, _), (40, _)] ⟨rfl, rfl, rfl, trivial⟩ ⟨_, hK4, rfl, h⟩
  replace hc32 := zb hc32
  replace hF := bifF hc32 hF
  refine qB hc32 (t := 17) rfl (qa rfl (zp1 rfl (qa rfl (zl 0 0 h rfl (qa rfl ?_)))))
  obtain ⟨r7, hr19, hF⟩ := qd hF
  refine ql r7 h call150 (qhp hr19) rfl rfl rfl rfl ?_
  intro w18 h
  refine qa rfl (zp3 rfl ?_)
  by_cases hc33 : (!r7) = true
  ·replace hF := bifT hc33 hF
   refine qC hc33 (t := 23) rfl (zn4 rfl (zp2 rfl (zn4 rfl (zp1 rfl ?_))))
   refine zp1 rfl (zn4 rfl (zp1 rfl (qb ?_)))
   obtain rfl := qj hF
   exact qx [(1, _), (3, _), (40, _)] ⟨rfl, rfl, rfl, trivial⟩ ⟨_, hK4, rfl, h⟩
  replace hc33 := zb hc33
  replace hF := bifF hc33 hF
  refine qB hc33 (t := 23) rfl (qa rfl (zp1 rfl (qa rfl (zl 0 3 h rfl (qa rfl (zp1 rfl (qa rfl (zp3 rfl ?_))))))))
  by_cases hc34 : (decide ((a_0.Arcs.length : Int) > 8)) = true
  ·replace hF := bifT hc34 hF
   refine qC hc34 (t := 29) rfl (zn4 rfl (zp2 rfl (zn4 rfl (zp1 rfl ?_))))
   refine qb ?_
   obtain rfl := qj hF
   exact qx [(1, _), (3, _), (40, _)] ⟨rfl, rfl, rfl, trivial⟩ ⟨_, hK4, rfl, h⟩
  replace hc34 := zb hc34
  replace hF := bifF hc34 hF
  refine qB hc34 (t := 29) rfl (qa rfl (zp1 rfl (qa rfl (zl 0 5 h rfl (qa rfl ?_)))))
  obtain ⟨r8, hr20, hF⟩ := qd hF
  refine ql r8 h call35 (qaf hr20) rfl rfl rfl rfl ?_
  intro w19 h
  refine qa rfl (zp3 rfl ?_)
  by_cases hc35 : (!r8) = true
  ·replace hF := bifT hc35 hF
   refine qC hc35 (t := 35) rfl (zn4 rfl (zp1 rfl (qb ?_)))
   obtain rfl := qj hF
   exact qx [(1, _), (3, _), (40, _)] ⟨rfl, rfl, rfl, trivial⟩ ⟨_, hK4, rfl, h⟩
  replace hc35 := zb hc35
  replace hF := bifF hc35 hF
  refine qB hc35 (t := 35) rfl (qa rfl (zp1 rfl (qa rfl (zl 0 6 h rfl (qa rfl ?_)))))
  obtain ⟨r9, hr21, hF⟩ := qd hF
  refine ql r9 h call35 (qaf hr21) rfl rfl rfl rfl ?_
  intro w20 h
  refine qa rfl (zp2 rfl (qb ?_))
  obtain rfl := qj hF
  exact qx [(1, _), (3, _), (40, _)] ⟨rfl, rfl, rfl, trivial⟩ ⟨_, hK4, rfl, h⟩
 rintro e4 w21 ⟨b1, hF, rfl, h⟩
 subst hKF1
 refine qq rfl hF ?_ ?_ <;> intro hF
 ·exact zSR (zp1 rfl (qb (qu qc h hF ⟨rfl, trivial⟩)))
 refine zKSSR (zp1 rfl (qb ?_))
 obtain ⟨o1, hF, hK1⟩ := qd hF
 refine qz (qT [(1, _), (3, _), (5, _)] ⟨rfl, rfl, rfl, trivial⟩ ?_)
 refine qH (fun m e w' => ∃ (i1 : Int), qdm a_0 m i1 = some o1 ∧ e = [(1, .pointer (some ⟨bb1, 0, none⟩)), (3, .int .i64 r2), (5, .int .i64 i1)] ∧ SH w w' [Ch.box bb1 [.string a_0.Name, .int .i64 a_0.Kind, .slice p1 a_0.Pins.length k1, .slice p2 a_0.Arcs.length k2, .slice p3 a_0.Truth.length k3, .int .i64 a_0.Leak, .int .i64 a_0.Energy] 155]) n ⟨_, hF, rfl, h⟩ ?_
 rintro m1 e1 w3 ⟨i1, hF, rfl, h⟩
 rcases m1 with _ | m1
 ·rw [qdm] at hF
  cases hF
 rw [qdm] at hF
 refine zSSR (zp2 rfl (zl 0 3 h rfl (zp2 rfl (qb ?_))))
 refine qq rfl hF ?_ ?_ <;> intro hF
 ·refine zKSBSR (zp1 rfl (zl 0 3 h rfl (zp1 rfl ?_)))
  obtain ⟨y1, hy1, hF⟩ := qd hF
  have he1 := qg hy1
  obtain ⟨b2, o_1, q1, cs2, hp1, hq1, -, hr5, hc3⟩ := s2.at hy1
  obtain ⟨p4, k4, p5, k5, rfl, s4, s5⟩ := qat hr5
  refine zxe hp1 hq1 he1 rfl (zc 0 (hc3.below h.below) rfl (qU qc h rfl rfl rfl ?_))
  intro w4 bb2 h
  refine zs 0 h rfl ?_
  intro w5 h
  refine zNSSR (zl 1 0 h rfl (zl 0 0 h rfl ?_))
  obtain ⟨r4, hr6, hF⟩ := qd hF
  refine ql r4 h call166 (qlr (h.old ha1) (qfq y1 (h.oldS s4) (h.oldS s5)) hr6) rfl rfl rfl rfl ?_
  intro w6 h
  refine zp1 rfl (qb ?_)
  refine qq rfl hF ?_ ?_ <;> intro hF
  ·refine zSR (zp1 rfl (qb ?_))
   obtain rfl := qj hF; replace hF := hK1
   exact qu qc h hF ⟨rfl, trivial⟩
  refine zKSR (zp1 rfl (qb ?_))
  obtain ⟨o2, hF, hK2⟩ := qd hF
  refine qz (qT [(1, _), (3, _), (5, _), (6, _), (7, _)] ⟨rfl, rfl, rfl, rfl, rfl, trivial⟩ ?_)
  refine qH (fun m e w' => ∃ (i2 : Int), qcg a_0 i1 y1 m i2 = some o2 ∧ e = [(1, .pointer (some ⟨bb1, 0, none⟩)), (3, .int .i64 r2), (5, .int .i64 i1), (6, .pointer (some ⟨bb2, 0, none⟩)), (7, .int .i64 i2)] ∧ SH w w' [Ch.box bb2 [.int .i64 y1.Kind, .int .i64 y1.From, .int .i64 y1.To, .int .i64 y1.Sense, .slice p4 y1.Delay.length k4, .slice p5 y1.Slew.length k5] 159, Ch.box bb1 [.string a_0.Name, .int .i64 a_0.Kind, .slice p1 a_0.Pins.length k1, .slice p2 a_0.Arcs.length k2, .slice p3 a_0.Truth.length k3, .int .i64 a_0.Leak, .int .i64 a_0.Energy] 155]) m1 ⟨_, hF, rfl, h⟩ ?_
  rintro m2 e2 w7 ⟨i2, hF, rfl, h⟩
  rcases m2 with _ | m2
  ·rw [qcg] at hF
   cases hF
  rw [qcg] at hF
  refine zSSR (zp3 rfl (qb ?_))
  refine qq rfl hF ?_ ?_ <;> intro hF
  ·refine zKSB (qbn ?_)
   refine qco rfl (by kernel_rfl) ?_
   refine zd1 rfl ?_
   refine zdl 1 3 h rfl ?_
   refine zd1 rfl ?_
   obtain ⟨y2, hy2, hF⟩ := qd hF
   have he2 := qg hy2
   obtain ⟨b3, o_2, q2, cs3, hp2, hq2, -, hr7, hc6⟩ := s2.at hy2
   obtain ⟨p6, k6, p7, k7, rfl, s6, s7⟩ := qat hr7
   refine zdxe hp2 hq2 he2 rfl ?_
   refine zd1 rfl ?_
   refine zdc 0 (hc6.below h.below) rfl ?_
   refine zd1 rfl ?_
   refine zdl 0 0 h rfl ?_
   refine zd2 rfl ?_
   by_cases hc7 : (y2.Kind == y1.Kind) = true
   ·replace hF := bifT hc7 hF
    refine qb0 hc7 (t := 71) rfl (qf rfl (zd1 rfl (qf rfl ?_)))
    refine zdl 1 3 h rfl ?_
    refine qf rfl (zd1 rfl (qf rfl ?_))
    obtain ⟨y3, hy3, hF⟩ := qd hF
    have he3 := qg hy3
    obtain ⟨b4, o_3, q3, cs4, hp3, hq3, -, hr8, hc8⟩ := s2.at hy3
    obtain ⟨p8, k8, p9, k9, rfl, s8, s9⟩ := qat hr8
    refine zdxe hp3 hq3 he3 rfl ?_
    refine qf rfl (zd1 rfl (qf rfl ?_))
    refine zdc 1 (hc8.below h.below) rfl ?_
    refine qf rfl (zd1 rfl (qf rfl ?_))
    refine zdl 0 1 h rfl ?_
    refine qf rfl (zd3 rfl ?_)
    by_cases hc9 : (y3.From == y1.From) = true
    ·replace hF := bifT hc9 hF
     refine qb0 hc9 (t := 82) rfl (qf rfl (zd1 rfl (qf rfl ?_)))
     refine zdl 1 3 h rfl ?_
     refine qf rfl (zd1 rfl (qf rfl ?_))
     obtain ⟨y4, hy4, hF⟩ := qd hF
     have he4 := qg hy4
     obtain ⟨b5, o_4, q4, cs5, hp4, hq4, -, hr9, hc10⟩ := s2.at hy4
     obtain ⟨p10, k10, p11, k11, rfl, s10, s11⟩ := qat hr9
     refine zdxe hp4 hq4 he4 rfl ?_
     refine qf rfl (zd1 rfl (qf rfl ?_))
     refine zdc 2 (hc10.below h.below) rfl ?_
     refine qf rfl (zd1 rfl (qf rfl ?_))
     refine zdl 0 2 h rfl ?_
     refine qf rfl (zd2 rfl ?_)
     refine qaX (fun w8 hb => ?_)
     replace h := h.ext hb
     clear hb
     refine qq rfl hF ?_ ?_ <;> intro hF
     ·refine zSR (zp1 rfl (qb ?_))
      obtain rfl := qj hF; replace hF := hK2
      obtain rfl := qj hF; replace hF := hK1
      exact qu qc h hF ⟨rfl, trivial⟩
     exact zKER (zp3 rfl (qb (qA m2 [(1, _), (3, _), (5, _), (6, _), (7, _)] (Nat.lt_succ_self m2) ⟨rfl, rfl, rfl, rfl, rfl, trivial⟩ ⟨_, hF, rfl, h⟩)))
    replace hc9 := zb hc9
    replace hF := bifF hc9 hF
    refine qb3 hc9 (t := 82) rfl (qh rfl rfl rfl (qh rfl rfl rfl (qh rfl rfl rfl (qh rfl rfl rfl (qh rfl rfl rfl (qh rfl rfl rfl (qh rfl rfl rfl (qh rfl rfl rfl (qh rfl rfl rfl (zd1 rfl ?_))))))))))
    refine qaX (fun w9 hb => ?_)
    replace h := h.ext hb
    clear hb
    exact qc3 rfl rfl (zKER (zp3 rfl (qb (qA m2 [(1, _), (3, _), (5, _), (6, _), (7, _)] (Nat.lt_succ_self m2) ⟨rfl, rfl, rfl, rfl, rfl, trivial⟩ ⟨_, hF, rfl, h⟩))))
   replace hc7 := zb hc7
   replace hF := bifF hc7 hF
   refine qb3 hc7 (t := 71) rfl (qh rfl rfl rfl (qh rfl rfl rfl (qh rfl rfl rfl (qh rfl rfl rfl (qh rfl rfl rfl (qh rfl rfl rfl (qh rfl rfl rfl (qh rfl rfl rfl (qh rfl rfl rfl (zd2 rfl ?_))))))))))
   refine qh rfl rfl rfl (qh rfl rfl rfl (qh rfl rfl rfl (qh rfl rfl rfl (qh rfl rfl rfl (qh rfl rfl rfl (qh rfl rfl rfl (qh rfl rfl rfl (qh rfl rfl rfl (zd1 rfl ?_)))))))))
   refine qaX (fun w10 hb => ?_)
   replace h := h.ext hb
   clear hb
   exact qc3 rfl rfl (zKER (zp3 rfl (qb (qA m2 [(1, _), (3, _), (5, _), (6, _), (7, _)] (Nat.lt_succ_self m2) ⟨rfl, rfl, rfl, rfl, rfl, trivial⟩ ⟨_, hF, rfl, h⟩))))
  refine qI rfl ?_
  obtain rfl := qj hF; replace hF := hK2
  refine qfL (qE (zp3 rfl (qb ?_)))
  replace h := h.pick [1] rfl
  exact qA m1 [(1, _), (3, _), (5, _)] (Nat.lt_succ_self m1) ⟨rfl, rfl, rfl, trivial⟩ ⟨_, hF, rfl, h⟩
 refine qI rfl ?_
 obtain rfl := qj hF; replace hF := hK1
 refine zSR (zl 0 0 h rfl ?_)
 obtain ⟨r5, hr10, hF⟩ := qd hF
 refine qak r5 h call167 (qkl (h.old ha1) hr10) rfl rfl rfl rfl ?_
 intro w11 S4 p12 k12 h
 refine zp1 rfl (zNSSR (zp1 rfl (zl 1 1 h rfl (qb (zBSR (zp1 rfl ?_))))))
 refine zp1 rfl (qb ?_)
 refine qq rfl hF ?_ ?_ <;> intro hF
 ·refine zSSR (zp1 rfl (qb ?_))
  obtain ⟨o3, hF, hK3⟩ := qd hF
  refine qz ?_
  replace h := h.pick [1] rfl
  refine qT [(1, _), (3, _), (9, _)] ⟨rfl, rfl, rfl, trivial⟩ ?_
  refine qH (fun m e w' => ∃ (i3 : Int), qdi a_0 m i3 = some o3 ∧ e = [(1, .pointer (some ⟨bb1, 0, none⟩)), (3, .int .i64 r2), (9, .int .i64 i3)] ∧ SH w w' [Ch.box bb1 [.string a_0.Name, .int .i64 a_0.Kind, .slice p1 a_0.Pins.length k1, .slice p2 a_0.Arcs.length k2, .slice p3 a_0.Truth.length k3, .int .i64 a_0.Leak, .int .i64 a_0.Energy] 155]) n ⟨_, hF, rfl, h⟩ ?_
  rintro m3 e3 w12 ⟨i3, hF, rfl, h⟩
  rcases m3 with _ | m3
  ·rw [qdi] at hF
   cases hF
  rw [qdi] at hF
  refine zSSR (zp2 rfl (zl 0 4 h rfl (zp2 rfl (qb ?_))))
  refine qq rfl hF ?_ ?_ <;> intro hF
  ·refine zKSBSR (zp1 rfl (zl 0 4 h rfl (zp1 rfl ?_)))
   obtain ⟨y5, hy5, hF⟩ := qd hF
   have he5 := qg hy5
   obtain ⟨b6, o_5, q5, cs6, hp5, hq5, -, hr11, hc14⟩ := s3.at hy5
   obtain rfl := hr11
   refine zxe hp5 hq5 he5 rfl (zc 0 (hc14.below h.below) rfl ?_)
   obtain ⟨r6, hr12, hF⟩ := qd hF
   refine ql r6 h call35 (qaf hr12) rfl rfl rfl rfl ?_
   intro w13 h
   refine zp1 rfl (qb ?_)
   refine qq rfl hF ?_ ?_ <;> intro hF
   ·refine zSR (zp1 rfl (qb ?_))
    obtain rfl := qj hF; replace hF := hK3
    exact qu qc h hF ⟨rfl, trivial⟩
   exact zKER (zp3 rfl (qb (qA m3 [(1, _), (3, _), (9, _)] (Nat.lt_succ_self m3) ⟨rfl, rfl, rfl, trivial⟩ ⟨_, hF, rfl, h⟩)))
  refine qI rfl ?_
  obtain rfl := qj hF; replace hF := hK3
  refine zSR (zp3 rfl ?_)
  by_cases hc16 : (r2 == 0) = true
  ·replace hF := bifT hc16 hF
   refine qC hc16 (t := 115) rfl (qa rfl (zp1 rfl (qa rfl (zl 0 4 h rfl (qa rfl (zp1 rfl (qa rfl (zp1 rfl (qa rfl (zl 0 2 h rfl (qa rfl ?_)))))))))))
   refine zp1 rfl (qa rfl (zp1 rfl (qa rfl (zp1 rfl (qa rfl ?_)))))
   obtain ⟨y6, hx1, hF⟩ := qd hF
   obtain ⟨g1, hx1⟩ := qmH hx1
   refine r_v (qqH g1 rfl rfl) rfl ?_
   rw [hx1]
   exact qa rfl (zp3 rfl (qb (qu qc h hF ⟨rfl, trivial⟩)))
  replace hc16 := zb hc16
  replace hF := bifF hc16 hF
  refine qB hc16 (t := 115) rfl (zn5 rfl (zn5 rfl (zp1 rfl ?_)))
  exact zp1 rfl (qb (qu qc h hF ⟨rfl, trivial⟩))
 refine zSR (zp2 rfl (qb ?_))
 refine qq rfl hF ?_ ?_ <;> intro hF
 ·refine qbn ?_
  refine qco rfl (by kernel_rfl) ?_
  refine zd3 rfl ?_
  by_cases hc18 : (r2 == 1) = true
  ·replace hF := bifT hc18 hF
   refine qb0 hc18 (t := 131) rfl (qf rfl (zd1 rfl (qf rfl ?_)))
   obtain ⟨y7, hy6, hF⟩ := qd hF
   have he6 := qg hy6
   obtain ⟨b7, o_6, q6, cs7, hp6, hq6, -, hr13, hc19⟩ := (h.sl 0 rfl).1.at hy6
   obtain rfl := hr13
   refine zdx hp6 hq6 ⟨he6.1, qa0 he6.2.1 (h.sl 0 rfl).2⟩ rfl ?_
   refine qf rfl ?_
   refine zdc 0 hc19 rfl ?_
   refine qf rfl (zd3 rfl ?_)
   by_cases hc20 : (y7 == 0) = true
   ·replace hF := bifT hc20 hF
    refine qb0 hc20 (t := 137) rfl (qf rfl (zd1 rfl (qf rfl ?_)))
    obtain ⟨y8, hy7, hF⟩ := qd hF
    have he7 := qg hy7
    obtain ⟨b8, o_7, q7, cs8, hp7, hq7, -, hr14, hc21⟩ := (h.sl 0 rfl).1.at hy7
    obtain rfl := hr14
    refine zdx hp7 hq7 ⟨he7.1, qa0 he7.2.1 (h.sl 0 rfl).2⟩ rfl ?_
    refine qf rfl ?_
    refine zdc 0 hc21 rfl ?_
    refine qf rfl (zd1 rfl (qf rfl (zd1 rfl (qf rfl ?_))))
    obtain ⟨y9, hy8, hF⟩ := qd hF
    have he8 := qg hy8
    obtain ⟨b9, o_8, q8, cs9, hp8, hq8, -, hr15, hc22⟩ := (h.sl 0 rfl).1.at hy8
    obtain rfl := hr15
    refine zdx hp8 hq8 ⟨he8.1, qa0 he8.2.1 (h.sl 0 rfl).2⟩ rfl ?_
    refine qf rfl ?_
    refine zdc 0 hc22 rfl ?_
    refine qf rfl (zd1 rfl (qf rfl (zd3 rfl ?_)))
    by_cases hc23 : (!((decide (y8 > 0)) == (decide (y9 > 0)))) = true
    ·replace hF := bifT hc23 hF
     refine qb0 hc23 (t := 148) rfl (qf rfl (zd1 rfl (qf rfl ?_)))
     refine zdl 1 4 h rfl ?_
     refine qf rfl (zd1 rfl (qf rfl (zd3 rfl ?_)))
     refine qaX (fun w14 hb => ?_)
     replace h := h.ext hb
     clear hb
     exact qu qc h hF ⟨rfl, trivial⟩
    replace hc23 := zb hc23
    replace hF := bifF hc23 hF
    refine qb3 hc23 (t := 148) rfl (qh rfl rfl rfl (qh rfl rfl rfl (qh rfl rfl rfl (qh rfl rfl rfl (zd2 rfl ?_)))))
    refine qaX (fun w15 hb => ?_)
    replace h := h.ext hb
    clear hb
    exact qu qc h hF ⟨rfl, trivial⟩
   replace hc20 := zb hc20
   replace hF := bifF hc20 hF
   refine qb3 hc20 (t := 137) rfl (qh rfl rfl rfl (qh rfl rfl rfl (qh rfl rfl rfl (qh rfl rfl rfl (qh rfl rfl rfl (qh rfl rfl rfl (qh rfl rfl rfl (qh rfl rfl rfl (qh rfl rfl rfl (zd2 rfl ?_))))))))))
   refine qh rfl rfl rfl (qh rfl rfl rfl (qh rfl rfl rfl (qh rfl rfl rfl (zd2 rfl ?_))))
   refine qaX (fun w16 hb => ?_)
   replace h := h.ext hb
   clear hb
   exact qu qc h hF ⟨rfl, trivial⟩
  replace hc18 := zb hc18
  replace hF := bifF hc18 hF
  refine qb3 hc18 (t := 131) rfl (qh rfl rfl rfl (qh rfl rfl rfl (qh rfl rfl rfl (qh rfl rfl rfl (zd2 rfl (qh rfl rfl rfl (qh rfl rfl rfl (qh rfl rfl rfl (qh rfl rfl rfl (qh rfl rfl rfl ?_))))))))))
  refine qh rfl rfl rfl (qh rfl rfl rfl (qh rfl rfl rfl (qh rfl rfl rfl (zd2 rfl (qh rfl rfl rfl (qh rfl rfl rfl (qh rfl rfl rfl (qh rfl rfl rfl (zd2 rfl ?_)))))))))
  refine qaX (fun w17 hb => ?_)
  replace h := h.ext hb
  clear hb
  exact qu qc h hF ⟨rfl, trivial⟩
 refine zSR (zp2 rfl (qb ?_))
 refine qq rfl hF ?_ ?_ <;> intro hF
 ·refine zSR (zp3 rfl ?_)
  by_cases hc25 : (r2 == 1) = true
  ·replace hF := bifT hc25 hF
   refine qC hc25 (t := 158) rfl (qa rfl (zp1 rfl (qa rfl ?_)))
   obtain ⟨y10, hy9, hF⟩ := qd hF
   have he9 := qg hy9
   obtain ⟨b10, o_9, q9, cs10, hp9, hq9, -, hr16, hc26⟩ := (h.sl 0 rfl).1.at hy9
   obtain rfl := hr16
   refine zx hp9 hq9 ⟨he9.1, qa0 he9.2.1 (h.sl 0 rfl).2⟩ rfl (qa rfl (zc 0 hc26 rfl (qa rfl (zp3 rfl ?_))))
   by_cases hc27 : (decide (y10 > 0)) = true
   ·replace hF := bifT hc27 hF
    refine qC hc27 (t := 164) rfl (qa rfl (zp1 rfl (qa rfl ?_)))
    obtain ⟨y11, hy10, hF⟩ := qd hF
    have he10 := qg hy10
    obtain ⟨b11, o_10, q10, cs11, hp10, hq10, -, hr17, hc28⟩ := (h.sl 0 rfl).1.at hy10
    obtain rfl := hr17
    refine zx hp10 hq10 ⟨he10.1, qa0 he10.2.1 (h.sl 0 rfl).2⟩ rfl (qa rfl (zc 0 hc28 rfl (qa rfl (zp3 rfl ?_))))
    by_cases hc29 : (decide (y11 > 0)) = true
    ·replace hF := bifT hc29 hF
     refine qC hc29 (t := 170) rfl (qa rfl (zp1 rfl (qa rfl ?_)))
     obtain ⟨y12, hy11, hF⟩ := qd hF
     have he11 := qg hy11
     obtain ⟨b12, o_11, q11, cs12, hp11, hq11, -, hr18, hc30⟩ := (h.sl 0 rfl).1.at hy11
     obtain rfl := hr18
     refine zx hp11 hq11 ⟨he11.1, qa0 he11.2.1 (h.sl 0 rfl).2⟩ rfl (qa rfl (zc 0 hc30 rfl (qa rfl (zp3 rfl ?_))))
     by_cases hc31 : (y12 == 0) = true
     ·replace hF := bifT hc31 hF
      refine qC hc31 (t := 176) rfl (qa rfl (zp1 rfl (qa rfl (zl 1 4 h rfl (qa rfl (zp1 rfl (qa rfl (zp3 rfl (qb ?_)))))))))
      exact qu qc h hF ⟨rfl, trivial⟩
     replace hc31 := zb hc31
     replace hF := bifF hc31 hF
     exact qB hc31 (t := 176) rfl (zn4 rfl (zp2 rfl (qb (qu qc h hF ⟨rfl, trivial⟩))))
    replace hc29 := zb hc29
    replace hF := bifF hc29 hF
    refine qB hc29 (t := 170) rfl (zn4 rfl (zp2 rfl (zn4 rfl (zp1 rfl ?_))))
    exact zp1 rfl (qb (qu qc h hF ⟨rfl, trivial⟩))
   replace hc27 := zb hc27
   replace hF := bifF hc27 hF
   refine qB hc27 (t := 164) rfl (zn4 rfl (zp2 rfl (zn4 rfl (zp1 rfl ?_))))
   exact zp1 rfl (zn4 rfl (zp2 rfl (qb (qu qc h hF ⟨rfl, trivial⟩))))
  replace hc25 := zb hc25
  replace hF := bifF hc25 hF
  refine qB hc25 (t := 158) rfl (zn4 rfl (zp2 rfl (zn4 rfl (zp1 rfl ?_))))
  refine zp1 rfl (zn4 rfl (zp2 rfl (zn4 rfl (zp1 rfl ?_))))
  exact zp1 rfl (qb (qu qc h hF ⟨rfl, trivial⟩))
 exact zKE (zSR (zp1 rfl (qb (qu qc h hF ⟨rfl, trivial⟩))))

def qcc (l : qt) (i1 : Int) : Nat → Int → Option (Flow Bool Int)
 | 0, _ => none
 | n + 1, i2 =>
  bif decide (i2 < i1) then
   (idx l.Cells i2).bind fun y2 =>
   (idx l.Cells i1).bind fun y3 =>
   bif (y2.Name.toList == y3.Name.toList) then
    some (.ret false)
   else
    qcc l i1 n (W64 (i2 + 1))
  else
   some (.nxt i2)

def qce (l : qt) : Nat → Int → Option (Flow Bool Int)
 | 0, _ => none
 | n + 1, i1 =>
  bif decide (i1 < (l.Cells.length : Int)) then
   (idx l.Cells i1).bind fun y1 =>
   (qhb n y1).bind fun r1 =>
   bif (!r1) then
    some (.ret false)
   else
    (qcc l i1 n 0).bind fun o => match o with
    | .ret r => some (.ret r)
    | .nxt _ =>
     qce l n (W64 (i1 + 1))
  else
   some (.nxt i1)

def qfs (n : Nat) (l : qt) : Option Bool :=
 (qce l n 0).bind fun o => match o with
 | .ret r => some r
 | .nxt _ =>
  some (decide ((l.Cells.length : Int) ≤ 8))

theorem qkg {n : Nat} {w : World} {l : qt} {cs1 : List Value} (ha1 : GoT.R w (old w) l cs1) {r : Bool} (hF : qfs n l = some r) : RetV Tryz.prog 118 [GoT.v qt cs1] w r := by
 obtain ⟨p1, k1, rfl, s1⟩ := qbu ha1
 refine qe Tryz.func118 rfl (m := 41) rfl rfl (fun h => ?_)
 rw [qfs] at hF
 refine zSR (qM h rfl rfl ?_)
 intro w1 bb1 h
 refine zp1 rfl (zNSSR (zp1 rfl (qb ?_)))
 obtain ⟨o1, hF, hK1⟩ := qd hF
 refine qz (qT [(1, _), (3, _)] ⟨rfl, rfl, trivial⟩ ?_)
 refine qH (fun m e w' => ∃ (i1 : Int), qce l m i1 = some o1 ∧ e = [(1, .pointer (some ⟨bb1, 0, none⟩)), (3, .int .i64 i1)] ∧ SH w w' [Ch.box bb1 [.slice p1 l.Cells.length k1] 41]) n ⟨_, hF, rfl, h⟩ ?_
 rintro m1 e1 w2 ⟨i1, hF, rfl, h⟩
 rcases m1 with _ | m1
 ·rw [qce] at hF
  cases hF
 rw [qce] at hF
 refine zSSR (zp2 rfl (zl 0 0 h rfl (zp2 rfl (qb ?_))))
 refine qq rfl hF ?_ ?_ <;> intro hF
 ·refine zKSB (zSSR (zp1 rfl (zl 0 0 h rfl (zp1 rfl ?_))))
  obtain ⟨y1, hy1, hF⟩ := qd hF
  have he1 := qg hy1
  obtain ⟨b1, o_1, q1, cs2, hp1, hq1, -, hr1, hc2⟩ := s1.at hy1
  obtain ⟨p2, k2, p3, k3, p4, k4, rfl, s2, s3, s4⟩ := qV hr1
  refine zxe hp1 hq1 he1 rfl (zc 0 (hc2.below h.below) rfl ?_)
  obtain ⟨r1, hr2, hF⟩ := qd hF
  refine ql r1 h call149 (qlj (qgg y1 (h.oldS s2) (h.oldS s3) (h.oldS s4)) hr2) rfl rfl rfl rfl ?_
  intro w3 h
  refine zp1 rfl (qb ?_)
  refine qq rfl hF ?_ ?_ <;> intro hF
  ·refine zSR (zp1 rfl (qb ?_))
   obtain rfl := qj hF; replace hF := hK1
   exact qu qc h hF ⟨rfl, trivial⟩
  refine zKSR (zp1 rfl (qb ?_))
  obtain ⟨o2, hF, hK2⟩ := qd hF
  refine qz (qT [(1, _), (3, _), (4, _)] ⟨rfl, rfl, rfl, trivial⟩ ?_)
  refine qH (fun m e w' => ∃ (i2 : Int), qcc l i1 m i2 = some o2 ∧ e = [(1, .pointer (some ⟨bb1, 0, none⟩)), (3, .int .i64 i1), (4, .int .i64 i2)] ∧ SH w w' [Ch.box bb1 [.slice p1 l.Cells.length k1] 41]) m1 ⟨_, hF, rfl, h⟩ ?_
  rintro m2 e2 w4 ⟨i2, hF, rfl, h⟩
  rcases m2 with _ | m2
  ·rw [qcc] at hF
   cases hF
  rw [qcc] at hF
  refine zSSR (zp3 rfl (qb ?_))
  refine qq rfl hF ?_ ?_ <;> intro hF
  ·refine zKSB (qbn ?_)
   refine qco rfl (by kernel_rfl) ?_
   refine zd1 rfl ?_
   refine zdl 0 0 h rfl ?_
   refine zd1 rfl ?_
   obtain ⟨y2, hy2, hF⟩ := qd hF
   have he2 := qg hy2
   obtain ⟨b2, o_2, q2, cs3, hp2, hq2, -, hr3, hc5⟩ := s1.at hy2
   obtain ⟨p5, k5, p6, k6, p7, k7, rfl, s5, s6, s7⟩ := qV hr3
   refine zdxe hp2 hq2 he2 rfl ?_
   refine zd1 rfl ?_
   refine zdc 0 (hc5.below h.below) rfl ?_
   refine zd1 rfl ?_
   refine zdl 0 0 h rfl ?_
   refine zd1 rfl ?_
   obtain ⟨y3, hy3, hF⟩ := qd hF
   have he3 := qg hy3
   obtain ⟨b3, o_3, q3, cs4, hp3, hq3, -, hr4, hc6⟩ := s1.at hy3
   obtain ⟨p8, k8, p9, k9, p10, k10, rfl, s8, s9, s10⟩ := qV hr4
   refine zdxe hp3 hq3 he3 rfl ?_
   refine zd1 rfl ?_
   refine zdc 0 (hc6.below h.below) rfl ?_
   refine zd1 rfl ?_
   refine qaX (fun w5 hb => ?_)
   replace h := h.ext hb
   clear hb
   refine qq rfl hF ?_ ?_ <;> intro hF
   ·refine zSR (zp1 rfl (qb ?_))
    obtain rfl := qj hF; replace hF := hK2
    obtain rfl := qj hF; replace hF := hK1
    exact qu qc h hF ⟨rfl, trivial⟩
   exact zKER (zp3 rfl (qb (qA m2 [(1, _), (3, _), (4, _)] (Nat.lt_succ_self m2) ⟨rfl, rfl, rfl, trivial⟩ ⟨_, hF, rfl, h⟩)))
  refine qI rfl ?_
  obtain rfl := qj hF; replace hF := hK2
  exact qfL (qE (zp3 rfl (qb (qA m1 [(1, _), (3, _)] (Nat.lt_succ_self m1) ⟨rfl, rfl, trivial⟩ ⟨_, hF, rfl, h⟩))))
 refine qI rfl ?_
 obtain rfl := qj hF; replace hF := hK1
 exact zSR (zp1 rfl (zl 0 0 h rfl (zp3 rfl (qb (qu qc h hF ⟨rfl, trivial⟩)))))

def qcv (a_1 : qk) (y1 : qp) : Nat → Int → Option (Flow Bool Int)
 | 0, _ => none
 | n + 1, i2 =>
  bif decide (i2 < (y1.Nets.length : Int)) then
   (idx y1.Nets i2).bind fun y2 =>
   (qam n y2 0 (W64 ((a_1.Nets.length : Int) - 1))).bind fun r1 =>
   bif (!r1) then
    some (.ret false)
   else
    qcv a_1 y1 n (W64 (i2 + 1))
  else
   some (.nxt i2)

def qcy (a_1 : qk) : Nat → Int → Option (Flow Bool Int)
 | 0, _ => none
 | n + 1, i3 =>
  bif decide (i3 < (a_1.Ports.length : Int)) then
   (idx a_1.Ports i3).bind fun y4 =>
   (qam n y4.Dir 1 2).bind fun r3 =>
   bif (!r3) then
    some (.ret false)
   else
    (idx a_1.Ports i3).bind fun y5 =>
    (qam n y5.Net 0 (W64 ((a_1.Nets.length : Int) - 1))).bind fun r4 =>
    bif (!r4) then
     some (.ret false)
    else
     qcy a_1 n (W64 (i3 + 1))
  else
   some (.nxt i3)

def qcA (a_0 : qt) (a_1 : qk) : Nat → Int → Option (Flow Bool Int)
 | 0, _ => none
 | n + 1, i1 =>
  bif decide (i1 < (a_1.Instances.length : Int)) then
   (idx a_1.Instances i1).bind fun y1 =>
   (
    (qam n y1.Cell 0 (W64 ((a_0.Cells.length : Int) - 1))).bind fun r2 =>
    bif (!r2) then
     some true
    else
     (idx a_0.Cells y1.Cell).bind fun y3 =>
     some ((y1.Nets.length : Int) != (y3.Pins.length : Int))).bind fun b2 =>
   bif b2 then
    some (.ret false)
   else
    (qcv a_1 y1 n 0).bind fun o => match o with
    | .ret r => some (.ret r)
    | .nxt _ =>
     qcA a_0 a_1 n (W64 (i1 + 1))
  else
   some (.nxt i1)

def qfQ (n : Nat) (a_0 : qt) (a_1 : qk) : Option Bool :=
 (qcA a_0 a_1 n 0).bind fun o => match o with
 | .ret r => some r
 | .nxt _ =>
  (qcy a_1 n 0).bind fun o => match o with
  | .ret r => some r
  | .nxt _ =>
   some true

theorem qku {n : Nat} {w : World} {a_0 : qt} {a_1 : qk} {cs1 : List Value} (ha1 : GoT.R w (old w) a_0 cs1) {cs2 : List Value} (ha2 : GoT.R w (old w) a_1 cs2) {r : Bool} (hF : qfQ n a_0 a_1 = some r) : RetV Tryz.prog 119 [GoT.v qt cs1, GoT.v qk cs2] w r := by
 obtain ⟨p1, k1, rfl, s1⟩ := qbu ha1
 obtain ⟨p2, k2, p3, k3, p4, k4, rfl, s2, s3, s4⟩ := qan ha2
 refine qe Tryz.func119 rfl (m := 90) rfl rfl (fun h => ?_)
 rw [qfQ] at hF
 refine zSR (qM h rfl rfl ?_)
 intro w1 bb1 h
 refine qM h rfl rfl ?_
 intro w2 bb2 h
 refine zp1 rfl (zNSR (zp1 rfl (zl 0 1 h rfl (zp2 rfl (zNSSR ?_)))))
 refine zp1 rfl (qb ?_)
 obtain ⟨o1, hF, hK1⟩ := qd hF
 refine qz (qT [(2, _), (3, _), (5, _), (6, _)] ⟨rfl, rfl, rfl, rfl, trivial⟩ ?_)
 refine qH (fun m e w' => ∃ (i1 : Int), qcA a_0 a_1 m i1 = some o1 ∧ e = [(2, .pointer (some ⟨bb1, 0, none⟩)), (3, .pointer (some ⟨bb2, 0, none⟩)), (5, .int .i64 (a_1.Nets.length : Int)), (6, .int .i64 i1)] ∧ SH w w' [Ch.box bb2 [.slice p2 a_1.Instances.length k2, .slice p3 a_1.Nets.length k3, .slice p4 a_1.Ports.length k4] 45, Ch.box bb1 [.slice p1 a_0.Cells.length k1] 41]) n ⟨_, hF, rfl, h⟩ ?_
 rintro m1 e1 w3 ⟨i1, hF, rfl, h⟩
 rcases m1 with _ | m1
 ·rw [qcA] at hF
  cases hF
 rw [qcA] at hF
 refine zSSR (zp2 rfl (zl 0 0 h rfl (zp2 rfl (qb ?_))))
 refine qq rfl hF ?_ ?_ <;> intro hF
 ·refine zKSBSR (zp1 rfl (zl 0 0 h rfl (zp1 rfl ?_)))
  obtain ⟨y1, hy1, hF⟩ := qd hF
  have he1 := qg hy1
  obtain ⟨b1, o_1, q1, cs3, hp1, hq1, -, hr1, hc2⟩ := s2.at hy1
  obtain ⟨p5, k5, rfl, s5⟩ := qX hr1
  refine zxe hp1 hq1 he1 rfl (zc 0 (hc2.below h.below) rfl (qU qc h rfl rfl rfl ?_))
  intro w4 bb3 h
  refine zs 0 h rfl ?_
  intro w5 h
  refine zNSS ?_
  obtain ⟨KF1, hKF1, o3, hF, hK3⟩ := bindE hF
  refine qem (fun e w' => ∃ (b2 : Bool), KF1 b2 = some o1 ∧ e = [(2, .pointer (some ⟨bb1, 0, none⟩)), (3, .pointer (some ⟨bb2, 0, none⟩)), (5, .int .i64 (a_1.Nets.length : Int)), (6, .int .i64 i1), (7, .pointer (some ⟨bb3, 0, none⟩)), (46, .bool b2)] ∧ SH w w' [Ch.box bb3 [.string y1.Name, .int .i64 y1.Cell, .slice p5 y1.Nets.length k5] 126, Ch.box bb2 [.slice p2 a_1.Instances.length k2, .slice p3 a_1.Nets.length k3, .slice p4 a_1.Ports.length k4] 45, Ch.box bb1 [.slice p1 a_0.Cells.length k1] 41]) ?_ ?_
  ·refine qco rfl (by kernel_rfl) ?_
   refine zd1 rfl ?_
   refine zdl 0 1 h rfl ?_
   refine zd1 rfl ?_
   refine zdl 2 0 h rfl ?_
   refine zd2 rfl ?_
   obtain ⟨r2, hr4, hF⟩ := qd hF
   refine qcf r2 (vsB _) call35 (fun _ hb => qaf  hr4) rfl rfl rfl rfl ?_
   refine zd2 rfl ?_
   by_cases hc7 : (!r2) = true
   ·replace hF := bifT hc7 hF
    refine qb0 hc7 (t := 33) rfl (qh rfl rfl rfl (qh rfl rfl rfl (qh rfl rfl rfl (qh rfl rfl rfl (qh rfl rfl rfl (qh rfl rfl rfl (qh rfl rfl rfl (qh rfl rfl rfl (qh rfl rfl rfl (qh rfl rfl rfl (qh rfl rfl rfl ?_)))))))))))
    refine qh rfl rfl rfl (zd1 rfl ?_)
    refine qaX (fun w8 hb => ?_)
    replace h := h.ext hb
    clear hb
    obtain rfl := qj hF
    exact qx [(2, _), (3, _), (5, _), (6, _), (7, _), (46, _)] ⟨rfl, rfl, rfl, rfl, rfl, rfl, trivial⟩ ⟨_, hK3, rfl, h⟩
   replace hc7 := zb hc7
   replace hF := bifF hc7 hF
   refine qb3 hc7 (t := 33) rfl (qf rfl (zd1 rfl (qf rfl ?_)))
   refine zdl 0 2 h rfl ?_
   refine qf rfl (zd1 rfl (qf rfl (zd1 rfl (qf rfl ?_))))
   refine zdl 2 0 h rfl ?_
   refine qf rfl (zd1 rfl (qf rfl ?_))
   refine zdl 0 1 h rfl ?_
   refine qf rfl ?_
   obtain ⟨y3, hy3, hF⟩ := qd hF
   have he3 := qg hy3
   obtain ⟨b4, o_3, q3, cs5, hp3, hq3, -, hr5, hc8⟩ := s1.at hy3
   obtain ⟨p6, k6, p7, k7, p8, k8, rfl, s6, s7, s8⟩ := qV hr5
   refine zdxe hp3 hq3 he3 rfl ?_
   refine qf rfl (zd1 rfl (qf rfl ?_))
   refine zdc 2 (hc8.below h.below) rfl ?_
   refine qf rfl (zd1 rfl (qf rfl (zd2 rfl ?_)))
   refine qaX (fun w9 hb => ?_)
   replace h := h.ext hb
   clear hb
   obtain rfl := qj hF
   exact qx [(2, _), (3, _), (5, _), (6, _), (7, _), (46, _)] ⟨rfl, rfl, rfl, rfl, rfl, rfl, trivial⟩ ⟨_, hK3, rfl, h⟩
  rintro e3 w10 ⟨b2, hF, rfl, h⟩
  subst hKF1
  refine qq rfl hF ?_ ?_ <;> intro hF
  ·refine zSR (zp1 rfl (qb ?_))
   obtain rfl := qj hF; replace hF := hK1
   exact qu qc h hF ⟨rfl, trivial⟩
  refine zKSR (zp1 rfl (qb ?_))
  obtain ⟨o2, hF, hK2⟩ := qd hF
  refine qz (qT [(2, _), (3, _), (5, _), (6, _), (7, _), (8, _)] ⟨rfl, rfl, rfl, rfl, rfl, rfl, trivial⟩ ?_)
  refine qH (fun m e w' => ∃ (i2 : Int), qcv a_1 y1 m i2 = some o2 ∧ e = [(2, .pointer (some ⟨bb1, 0, none⟩)), (3, .pointer (some ⟨bb2, 0, none⟩)), (5, .int .i64 (a_1.Nets.length : Int)), (6, .int .i64 i1), (7, .pointer (some ⟨bb3, 0, none⟩)), (8, .int .i64 i2)] ∧ SH w w' [Ch.box bb3 [.string y1.Name, .int .i64 y1.Cell, .slice p5 y1.Nets.length k5] 126, Ch.box bb2 [.slice p2 a_1.Instances.length k2, .slice p3 a_1.Nets.length k3, .slice p4 a_1.Ports.length k4] 45, Ch.box bb1 [.slice p1 a_0.Cells.length k1] 41]) m1 ⟨_, hF, rfl, h⟩ ?_
  rintro m2 e2 w6 ⟨i2, hF, rfl, h⟩
  rcases m2 with _ | m2
  ·rw [qcv] at hF
   cases hF
  rw [qcv] at hF
  refine zSSR (zp2 rfl (zl 0 2 h rfl (zp2 rfl (qb ?_))))
  refine qq rfl hF ?_ ?_ <;> intro hF
  ·refine zKSBSR (zp1 rfl (zl 0 2 h rfl (zp1 rfl ?_)))
   obtain ⟨y2, hy2, hF⟩ := qd hF
   have he2 := qg hy2
   obtain ⟨b3, o_2, q2, cs4, hp2, hq2, -, hr2, hc5⟩ := s5.at hy2
   obtain rfl := hr2
   refine zxe hp2 hq2 he2 rfl (zc 0 (hc5.below h.below) rfl (zp2 rfl ?_))
   obtain ⟨r1, hr3, hF⟩ := qd hF
   refine ql r1 h call35 (qaf hr3) rfl rfl rfl rfl ?_
   intro w7 h
   refine zp1 rfl (qb ?_)
   refine qq rfl hF ?_ ?_ <;> intro hF
   ·refine zSR (zp1 rfl (qb ?_))
    obtain rfl := qj hF; replace hF := hK2
    obtain rfl := qj hF; replace hF := hK1
    exact qu qc h hF ⟨rfl, trivial⟩
   exact zKER (zp3 rfl (qb (qA m2 [(2, _), (3, _), (5, _), (6, _), (7, _), (8, _)] (Nat.lt_succ_self m2) ⟨rfl, rfl, rfl, rfl, rfl, rfl, trivial⟩ ⟨_, hF, rfl, h⟩)))
  refine qI rfl ?_
  obtain rfl := qj hF; replace hF := hK2
  refine qfL (qE (zp3 rfl (qb ?_)))
  replace h := h.pick [1, 2] rfl
  exact qA m1 [(2, _), (3, _), (5, _), (6, _)] (Nat.lt_succ_self m1) ⟨rfl, rfl, rfl, rfl, trivial⟩ ⟨_, hF, rfl, h⟩
 refine qI rfl ?_
 obtain rfl := qj hF; replace hF := hK1
 refine zSSR (zp1 rfl (qb ?_))
 obtain ⟨o4, hF, hK4⟩ := qd hF
 refine qz ?_
 replace h := h.pick [0] rfl
 refine qT [(3, _), (5, _), (9, _)] ⟨rfl, rfl, rfl, trivial⟩ ?_
 refine qH (fun m e w' => ∃ (i3 : Int), qcy a_1 m i3 = some o4 ∧ e = [(3, .pointer (some ⟨bb2, 0, none⟩)), (5, .int .i64 (a_1.Nets.length : Int)), (9, .int .i64 i3)] ∧ SH w w' [Ch.box bb2 [.slice p2 a_1.Instances.length k2, .slice p3 a_1.Nets.length k3, .slice p4 a_1.Ports.length k4] 45]) n ⟨_, hF, rfl, h⟩ ?_
 rintro m3 e4 w11 ⟨i3, hF, rfl, h⟩
 rcases m3 with _ | m3
 ·rw [qcy] at hF
  cases hF
 rw [qcy] at hF
 refine zSSR (zp2 rfl (zl 0 2 h rfl (zp2 rfl (qb ?_))))
 refine qq rfl hF ?_ ?_ <;> intro hF
 ·refine zKSBSR (zp1 rfl (zl 0 2 h rfl (zp1 rfl ?_)))
  obtain ⟨y4, hy4, hF⟩ := qd hF
  have he4 := qg hy4
  obtain ⟨b5, o_4, q4, cs6, hp4, hq4, -, hr6, hc10⟩ := s4.at hy4
  obtain rfl := qbt hr6
  refine zxe hp4 hq4 he4 rfl (zp1 rfl (zc 1 (hc10.below h.below) rfl ?_))
  obtain ⟨r3, hr7, hF⟩ := qd hF
  refine ql r3 h call35 (qaf hr7) rfl rfl rfl rfl ?_
  intro w12 h
  refine zp2 rfl ?_
  by_cases hc11 : (!r3) = true
  ·replace hF := bifT hc11 hF
   refine qC hc11 (t := 78) rfl (zn5 rfl (zn5 rfl (zp1 rfl ?_)))
   refine qb (qef rfl rfl (zSR (zp1 rfl (qb ?_))))
   obtain rfl := qj hF; replace hF := hK4
   exact qu qc h hF ⟨rfl, trivial⟩
  replace hc11 := zb hc11
  replace hF := bifF hc11 hF
  refine qB hc11 (t := 78) rfl (qa rfl (zp1 rfl (qa rfl (zl 0 2 h rfl (qa rfl (zp1 rfl (qa rfl ?_)))))))
  obtain ⟨y5, hy5, hF⟩ := qd hF
  have he5 := qg hy5
  obtain ⟨b6, o_5, q5, cs7, hp5, hq5, -, hr8, hc12⟩ := s4.at hy5
  obtain rfl := qbt hr8
  refine zxe hp5 hq5 he5 rfl (qa rfl (zp1 rfl (qa rfl (zc 2 (hc12.below h.below) rfl (qa rfl (zp1 rfl (qa rfl (zp1 rfl (qa rfl ?_)))))))))
  obtain ⟨r4, hr9, hF⟩ := qd hF
  refine ql r4 h call35 (qaf hr9) rfl rfl rfl rfl ?_
  intro w13 h
  refine qa rfl (zp2 rfl (qb ?_))
  refine qq rfl hF ?_ ?_ <;> intro hF
  ·refine zSR (zp1 rfl (qb ?_))
   obtain rfl := qj hF; replace hF := hK4
   exact qu qc h hF ⟨rfl, trivial⟩
  exact zKER (zp3 rfl (qb (qA m3 [(3, _), (5, _), (9, _)] (Nat.lt_succ_self m3) ⟨rfl, rfl, rfl, trivial⟩ ⟨_, hF, rfl, h⟩)))
 refine qI rfl ?_
 obtain rfl := qj hF; replace hF := hK4
 exact zSR (zp1 rfl (qb (qu qc h hF ⟨rfl, trivial⟩)))

def qcq (list : (List ByteArray)) (i1 : Int) : Nat → Int → Option (Flow Bool Int)
 | 0, _ => none
 | n + 1, i2 =>
  bif decide (i2 < i1) then
   (idx list i2).bind fun y2 =>
   (idx list i1).bind fun y3 =>
   bif (y2.toList == y3.toList) then
    some (.ret false)
   else
    qcq list i1 n (W64 (i2 + 1))
  else
   some (.nxt i2)

def qcu (list : (List ByteArray)) : Nat → Int → Option (Flow Bool Int)
 | 0, _ => none
 | n + 1, i1 =>
  bif decide (i1 < (list.length : Int)) then
   (idx list i1).bind fun y1 =>
   (qeT n y1).bind fun r1 =>
   bif (!r1) then
    some (.ret false)
   else
    (qcq list i1 n 0).bind fun o => match o with
    | .ret r => some (.ret r)
    | .nxt _ =>
     qcu list n (W64 (i1 + 1))
  else
   some (.nxt i1)

def qep (n : Nat) (list : (List ByteArray)) : Option Bool :=
 (qcu list n 0).bind fun o => match o with
 | .ret r => some r
 | .nxt _ =>
  some true

theorem qgZ {n : Nat} {w : World} {list : (List ByteArray)} {cs1 : List Value} (ha1 : GoT.R w (old w) list cs1) {r : Bool} (hF : qep n list = some r) : RetV Tryz.prog 120 [GoT.v (List ByteArray) cs1] w r := by
 obtain ⟨p1, k1, rfl, s1⟩ := ha1
 refine qe Tryz.func120 rfl (m := 31) rfl rfl (fun h => ?_)
 rw [qep] at hF
 refine zSR (zp1 rfl (zNSSR (zp1 rfl (qb ?_))))
 obtain ⟨o1, hF, hK1⟩ := qd hF
 refine qz (qT [(0, _), (3, _)] ⟨rfl, rfl, trivial⟩ ?_)
 refine qH (fun m e w' => ∃ (i1 : Int), qcu list m i1 = some o1 ∧ e = [(0, .slice p1 list.length k1), (3, .int .i64 i1)] ∧ SH w w' []) n ⟨_, hF, rfl, h⟩ ?_
 rintro m1 e1 w1 ⟨i1, hF, rfl, h⟩
 rcases m1 with _ | m1
 ·rw [qcu] at hF
  cases hF
 rw [qcu] at hF
 refine zSSR (zp4 rfl (qb ?_))
 refine qq rfl hF ?_ ?_ <;> intro hF
 ·refine zKSB (zSSR (zp2 rfl ?_))
  obtain ⟨y1, hy1, hF⟩ := qd hF
  have he1 := qg hy1
  obtain ⟨b1, o_1, q1, cs2, hp1, hq1, -, hr1, hc2⟩ := s1.at hy1
  obtain rfl := hr1
  refine zxe hp1 hq1 he1 rfl (zc 0 (hc2.below h.below) rfl ?_)
  obtain ⟨r1, hr2, hF⟩ := qd hF
  refine ql r1 h call150 (qhp hr2) rfl rfl rfl rfl ?_
  intro w2 h
  refine zp1 rfl (qb ?_)
  refine qq rfl hF ?_ ?_ <;> intro hF
  ·refine zSR (zp1 rfl (qb ?_))
   obtain rfl := qj hF; replace hF := hK1
   exact qu qc h hF ⟨rfl, trivial⟩
  refine zKSR (zp1 rfl (qb ?_))
  obtain ⟨o2, hF, hK2⟩ := qd hF
  refine qz (qT [(0, _), (3, _), (4, _)] ⟨rfl, rfl, rfl, trivial⟩ ?_)
  refine qH (fun m e w' => ∃ (i2 : Int), qcq list i1 m i2 = some o2 ∧ e = [(0, .slice p1 list.length k1), (3, .int .i64 i1), (4, .int .i64 i2)] ∧ SH w w' []) m1 ⟨_, hF, rfl, h⟩ ?_
  rintro m2 e2 w3 ⟨i2, hF, rfl, h⟩
  rcases m2 with _ | m2
  ·rw [qcq] at hF
   cases hF
  rw [qcq] at hF
  refine zSSR (zp3 rfl (qb ?_))
  refine qq rfl hF ?_ ?_ <;> intro hF
  ·refine zKSB (qbn ?_)
   refine qco rfl (by kernel_rfl) ?_
   refine zd2 rfl ?_
   obtain ⟨y2, hy2, hF⟩ := qd hF
   have he2 := qg hy2
   obtain ⟨b2, o_2, q2, cs3, hp2, hq2, -, hr3, hc5⟩ := s1.at hy2
   obtain rfl := hr3
   refine zdxe hp2 hq2 he2 rfl ?_
   refine zdc 0 (hc5.below h.below) rfl ?_
   refine zd2 rfl ?_
   obtain ⟨y3, hy3, hF⟩ := qd hF
   have he3 := qg hy3
   obtain ⟨b3, o_3, q3, cs4, hp3, hq3, -, hr4, hc6⟩ := s1.at hy3
   obtain rfl := hr4
   refine zdxe hp3 hq3 he3 rfl ?_
   refine zdc 0 (hc6.below h.below) rfl ?_
   refine zd1 rfl ?_
   refine qaX (fun w4 hb => ?_)
   replace h := h.ext hb
   clear hb
   refine qq rfl hF ?_ ?_ <;> intro hF
   ·refine zSR (zp1 rfl (qb ?_))
    obtain rfl := qj hF; replace hF := hK2
    obtain rfl := qj hF; replace hF := hK1
    exact qu qc h hF ⟨rfl, trivial⟩
   exact zKER (zp3 rfl (qb (qA m2 [(0, _), (3, _), (4, _)] (Nat.lt_succ_self m2) ⟨rfl, rfl, rfl, trivial⟩ ⟨_, hF, rfl, h⟩)))
  refine qI rfl ?_
  obtain rfl := qj hF; replace hF := hK2
  exact qfL (qE (zp3 rfl (qb (qA m1 [(0, _), (3, _)] (Nat.lt_succ_self m1) ⟨rfl, rfl, trivial⟩ ⟨_, hF, rfl, h⟩))))
 refine qI rfl ?_
 obtain rfl := qj hF; replace hF := hK1
 exact zSR (zp1 rfl (qb (qu qc h hF ⟨rfl, trivial⟩)))

def qcx (x5 : (List Int)) (x7 : (List Int)) : Nat → Int → Option (Flow Bool Int)
 | 0, _ => none
 | n + 1, i5 =>
  bif decide (i5 < (x5.length : Int)) then
   (idx x7 i5).bind fun y11 =>
   bif (y11 != 1) then
    some (.ret false)
   else
    qcx x5 x7 n (W64 (i5 + 1))
  else
   some (.nxt i5)

def qbz (a_1 : qk) : Nat → (List Int) → Int → Option ((List Int) × Int)
 | 0, _, _ => none
 | n + 1, x7, i4 =>
  bif decide (i4 < (a_1.Ports.length : Int)) then
   (idx a_1.Ports i4).bind fun y7 =>
   bif (y7.Dir == 1) then
    (idx a_1.Ports i4).bind fun y8 =>
    (idx x7 y8.Net).bind fun y9 =>
    (idx x7 y8.Net).bind fun _ =>
    qbz a_1 n (setS x7 y8.Net (W64 (y9 + 1))) (W64 (i4 + 1))
   else
    qbz a_1 n x7 (W64 (i4 + 1))
  else
   some (x7, i4)

def qbX (a_1 : qk) : Nat → (List Int) → Int → Option ((List Int) × Int)
 | 0, _, _ => none
 | n + 1, x6, i3 =>
  bif decide (i3 < (a_1.Instances.length : Int)) then
   (idx a_1.Instances i3).bind fun y3 =>
   (idx y3.Nets (W64 ((y3.Nets.length : Int) - 1))).bind fun y4 =>
   (idx x6 y4).bind fun y5 =>
   (idx x6 y4).bind fun _ =>
   qbX a_1 n (setS x6 y4 (W64 (y5 + 1))) (W64 (i3 + 1))
  else
   some (x6, i3)

def qb1 (a_1 : qk) : Nat → (List ByteArray) → Int → Option ((List ByteArray) × Int)
 | 0, _, _ => none
 | n + 1, x3, i2 =>
  bif decide (i2 < (a_1.Ports.length : Int)) then
   (idx a_1.Ports i2).bind fun y2 =>
   (appS x3 ([y2.Name] : List ByteArray)).bind fun x4 =>
   qb1 a_1 n x4 (W64 (i2 + 1))
  else
   some (x3, i2)

def qbY (a_1 : qk) : Nat → (List ByteArray) → Int → Option ((List ByteArray) × Int)
 | 0, _, _ => none
 | n + 1, x1, i1 =>
  bif decide (i1 < (a_1.Instances.length : Int)) then
   (idx a_1.Instances i1).bind fun y1 =>
   (appS x1 ([y1.Name] : List ByteArray)).bind fun x2 =>
   qbY a_1 n x2 (W64 (i1 + 1))
  else
   some (x1, i1)

def qfe (n : Nat) (a_0 : qt) (a_1 : qk) : Option Bool :=
 (
  (qfs n a_0).bind fun r4 =>
  bif (!r4) then
   some true
  else
   bif decide ((a_1.Instances.length : Int) > 14) then
    some true
   else
    bif decide ((a_1.Nets.length : Int) > 30) then
     some true
    else
     bif decide ((a_1.Ports.length : Int) > 8) then
      some true
     else
      (qfQ n a_0 a_1).bind fun r5 =>
      some (!r5)).bind fun b1 =>
 bif b1 then
  some false
 else
  (qbY a_1 n ([] : List ByteArray) 0).bind fun o => match o with
  | (x1, _) =>
   (qb1 a_1 n ([] : List ByteArray) 0).bind fun o => match o with
   | (x3, _) =>
    (
     (qep n x1).bind fun r1 =>
     bif (!r1) then
      some true
     else
      (qep n x3).bind fun r2 =>
      bif (!r2) then
       some true
      else
       (qep n a_1.Nets).bind fun r3 =>
       some (!r3)).bind fun b4 =>
    bif b4 then
     some false
    else
     (mkS (a_1.Nets.length : Int) (0 : Int)).bind fun x5 =>
     (qbX a_1 n x5 0).bind fun o => match o with
     | (x6, _) =>
      (qbz a_1 n x6 0).bind fun o => match o with
      | (x7, _) =>
       (qcx x5 x7 n 0).bind fun o => match o with
       | .ret r => some r
       | .nxt _ =>
        some true

theorem qix {n : Nat} {w : World} {a_0 : qt} {a_1 : qk} {cs1 : List Value} (ha1 : GoT.R w (old w) a_0 cs1) {cs2 : List Value} (ha2 : GoT.R w (old w) a_1 cs2) {r : Bool} (hF : qfe n a_0 a_1 = some r) : RetV Tryz.prog 67 [GoT.v qt cs1, GoT.v qk cs2] w r := by
 obtain ⟨p1, k1, rfl, s1⟩ := qbu ha1
 obtain ⟨p2, k2, p3, k3, p4, k4, rfl, s2, s3, s4⟩ := qan ha2
 refine qe Tryz.func67 rfl (m := 153) rfl rfl (fun h => ?_)
 rw [qfe] at hF
 refine zSR (qM h rfl rfl ?_)
 intro w1 bb1 h
 refine qM h rfl rfl ?_
 intro w2 bb2 h
 refine zp1 rfl (zNSS ?_)
 obtain ⟨KF2, hKF2, o7, hF, hK7⟩ := bindE hF
 refine qem (fun e w' => ∃ (b1 : Bool), KF2 b1 = some r ∧ e = [(3, .pointer (some ⟨bb2, 0, none⟩)), (40, .bool b1)] ∧ SH w w' [Ch.box bb2 [.slice p2 a_1.Instances.length k2, .slice p3 a_1.Nets.length k3, .slice p4 a_1.Ports.length k4] 45]) ?_ ?_
 ·refine qE (zl 1 0 h rfl ?_)
  obtain ⟨r4, hr15, hF⟩ := qd hF
  refine ql r4 h call118 (qkg (h.old ha1) hr15) rfl rfl rfl rfl ?_
  intro w21 h
  refine zp2 rfl ?_
  by_cases hc23 : (!r4) = true
  ·replace hF := bifT hc23 hF
   refine qC hc23 (t := 17) rfl (zn4 rfl (zp2 rfl (zn4 rfl (zp1 rfl ?_))))
   refine zp1 rfl (zn4 rfl (zp2 rfl (zn4 rfl (zp1 rfl ?_))))
   refine qb ?_
   replace h := h.pick [0] rfl
   obtain rfl := qj hF
   exact qx [(3, _), (40, _)] ⟨rfl, rfl, trivial⟩ ⟨_, hK7, rfl, h⟩
  replace hc23 := zb hc23
  replace hF := bifF hc23 hF
  refine qB hc23 (t := 17) rfl (qa rfl (zp1 rfl (qa rfl (zl 0 0 h rfl (qa rfl (zp1 rfl (qa rfl (zp3 rfl ?_))))))))
  by_cases hc24 : (decide ((a_1.Instances.length : Int) > 14)) = true
  ·replace hF := bifT hc24 hF
   refine qC hc24 (t := 23) rfl (zn4 rfl (zp2 rfl (zn4 rfl (zp1 rfl ?_))))
   refine zp1 rfl (zn4 rfl (zp1 rfl (qb ?_)))
   replace h := h.pick [0] rfl
   obtain rfl := qj hF
   exact qx [(3, _), (40, _)] ⟨rfl, rfl, trivial⟩ ⟨_, hK7, rfl, h⟩
  replace hc24 := zb hc24
  replace hF := bifF hc24 hF
  refine qB hc24 (t := 23) rfl (qa rfl (zp1 rfl (qa rfl (zl 0 1 h rfl (qa rfl (zp1 rfl (qa rfl (zp3 rfl ?_))))))))
  by_cases hc25 : (decide ((a_1.Nets.length : Int) > 30)) = true
  ·replace hF := bifT hc25 hF
   refine qC hc25 (t := 29) rfl (zn4 rfl (zp2 rfl (zn4 rfl (zp1 rfl ?_))))
   refine qb ?_
   replace h := h.pick [0] rfl
   obtain rfl := qj hF
   exact qx [(3, _), (40, _)] ⟨rfl, rfl, trivial⟩ ⟨_, hK7, rfl, h⟩
  replace hc25 := zb hc25
  replace hF := bifF hc25 hF
  refine qB hc25 (t := 29) rfl (qa rfl (zp1 rfl (qa rfl (zl 0 2 h rfl (qa rfl (zp1 rfl (qa rfl (zp3 rfl ?_))))))))
  by_cases hc26 : (decide ((a_1.Ports.length : Int) > 8)) = true
  ·replace hF := bifT hc26 hF
   refine qC hc26 (t := 35) rfl (zn4 rfl (zp1 rfl (qb ?_)))
   replace h := h.pick [0] rfl
   obtain rfl := qj hF
   exact qx [(3, _), (40, _)] ⟨rfl, rfl, trivial⟩ ⟨_, hK7, rfl, h⟩
  replace hc26 := zb hc26
  replace hF := bifF hc26 hF
  refine qB hc26 (t := 35) rfl (qa rfl (zl 1 0 h rfl (qa rfl (zl 0 0 h rfl (qa rfl ?_)))))
  obtain ⟨r5, hr16, hF⟩ := qd hF
  refine ql r5 h call119 (qku (h.old ha1) (h.old ha2) hr16) rfl rfl rfl rfl ?_
  intro w22 h
  refine qa rfl (zp2 rfl (qb ?_))
  replace h := h.pick [0] rfl
  obtain rfl := qj hF
  exact qx [(3, _), (40, _)] ⟨rfl, rfl, trivial⟩ ⟨_, hK7, rfl, h⟩
 rintro e7 w23 ⟨b1, hF, rfl, h⟩
 subst hKF2
 refine qq rfl hF ?_ ?_ <;> intro hF
 ·exact zSR (zp1 rfl (qb (qu qc h hF ⟨rfl, trivial⟩)))
 refine zKSR (qaP qc [] _ ([] : List ByteArray) h rfl rfl rfl rfl rfl rfl rfl rfl rfl trivial rfl ?_)
 intro w3 p5 S1 h
 refine zp1 rfl (zNSSR (zp1 rfl (qb ?_)))
 obtain ⟨o1, hF, hK1⟩ := qd hF
 refine qz (qT [(3, _), (5, _), (6, _)] ⟨rfl, rfl, rfl, trivial⟩ ?_)
 refine qH (fun m e w' => ∃ (S2 : Nat → Prop) (p6 : Option Addr) (ln1 : Nat) (k5 : Nat) (x1 : (List ByteArray)) (i1 : Int), qbY a_1 m x1 i1 = some o1 ∧ e = [(3, .pointer (some ⟨bb2, 0, none⟩)), (5, .slice p6 ln1 k5), (6, .int .i64 i1)] ∧ SH w w' [Ch.own S2 (x1 : List ByteArray) [.slice p6 ln1 k5], Ch.box bb2 [.slice p2 a_1.Instances.length k2, .slice p3 a_1.Nets.length k3, .slice p4 a_1.Ports.length k4] 45]) n ⟨_, _, _, _, _, _, hF, rfl, h⟩ ?_
 rintro m1 e1 w4 ⟨S2, p6, ln1, k5, x1, i1, hF, rfl, h⟩
 obtain rfl := (h.sl 0 rfl).2
 rcases m1 with _ | m1
 ·rw [qbY] at hF
  cases hF
 rw [qbY] at hF
 refine zSSR (zp2 rfl (zl 1 0 h rfl (zp2 rfl (qb ?_))))
 refine qq rfl hF ?_ ?_ <;> intro hF
 ·refine zKSBR (zp2 rfl (zl 1 0 h rfl (zp1 rfl ?_)))
  obtain ⟨y1, hy1, hF⟩ := qd hF
  have he1 := qg hy1
  obtain ⟨b2, o_1, q1, cs3, hp1, hq1, -, hr1, hc3⟩ := s2.at hy1
  obtain ⟨p7, k6, rfl, s5⟩ := qX hr1
  refine zxe hp1 hq1 he1 rfl (zp1 rfl (zc 0 (hc3.below h.below) rfl (qaP qc [.tmp 55] _ ([y1.Name] : List ByteArray) h rfl rfl rfl rfl rfl rfl rfl rfl rfl ⟨rfl, trivial⟩ rfl ?_)))
  intro w5 p8 S3 h
  obtain ⟨x2, hx1, hF⟩ := qd hF
  obtain ⟨g1, hx1⟩ := qbr hx1
  refine qeq qc 1 h rfl (h.sl 0 rfl).1 (h.sl 0 rfl).2 rfl rfl rfl rfl rfl rfl rfl rfl rfl g1 hx1 rfl ?_
  intro w6 p9 k7 S4 h
  refine zp1 rfl (zNER (zp3 rfl (qb ?_)))
  replace h := h.pick [1, 2] rfl
  exact qA m1 [(3, _), (5, _), (6, _)] (Nat.lt_succ_self m1) ⟨rfl, rfl, rfl, trivial⟩ ⟨_, _, _, _, _, _, hF, rfl, h⟩
 refine qI rfl ?_
 obtain rfl := qj hF; replace hF := hK1
 refine zSR (qaP qc [] _ ([] : List ByteArray) h rfl rfl rfl rfl rfl rfl rfl rfl rfl trivial rfl ?_)
 intro w7 p10 S5 h
 refine zp1 rfl (zNSSR (zp1 rfl (qb ?_)))
 obtain ⟨o2, hF, hK2⟩ := qd hF
 refine qz (qT [(3, _), (5, _), (7, _), (8, _)] ⟨rfl, rfl, rfl, rfl, trivial⟩ ?_)
 refine qH (fun m e w' => ∃ (S6 : Nat → Prop) (p11 : Option Addr) (ln2 : Nat) (k8 : Nat) (x3 : (List ByteArray)) (i2 : Int), qb1 a_1 m x3 i2 = some o2 ∧ e = [(3, .pointer (some ⟨bb2, 0, none⟩)), (5, .slice p6 x1.length k5), (7, .slice p11 ln2 k8), (8, .int .i64 i2)] ∧ SH w w' [Ch.own S6 (x3 : List ByteArray) [.slice p11 ln2 k8], Ch.own S2 (x1 : List ByteArray) [.slice p6 x1.length k5], Ch.box bb2 [.slice p2 a_1.Instances.length k2, .slice p3 a_1.Nets.length k3, .slice p4 a_1.Ports.length k4] 45]) n ⟨_, _, _, _, _, _, hF, rfl, h⟩ ?_
 rintro m2 e2 w8 ⟨S6, p11, ln2, k8, x3, i2, hF, rfl, h⟩
 obtain rfl := (h.sl 0 rfl).2
 rcases m2 with _ | m2
 ·rw [qb1] at hF
  cases hF
 rw [qb1] at hF
 refine zSSR (zp2 rfl (zl 2 2 h rfl (zp2 rfl (qb ?_))))
 refine qq rfl hF ?_ ?_ <;> intro hF
 ·refine zKSBR (zp2 rfl (zl 2 2 h rfl (zp1 rfl ?_)))
  obtain ⟨y2, hy2, hF⟩ := qd hF
  have he2 := qg hy2
  obtain ⟨b3, o_2, q2, cs4, hp2, hq2, -, hr2, hc5⟩ := s4.at hy2
  obtain rfl := qbt hr2
  refine zxe hp2 hq2 he2 rfl (zp1 rfl (zc 0 (hc5.below h.below) rfl (qaP qc [.tmp 72] _ ([y2.Name] : List ByteArray) h rfl rfl rfl rfl rfl rfl rfl rfl rfl ⟨rfl, trivial⟩ rfl ?_)))
  intro w9 p12 S7 h
  obtain ⟨x4, hx2, hF⟩ := qd hF
  obtain ⟨g2, hx2⟩ := qbr hx2
  refine qeq qc 1 h rfl (h.sl 0 rfl).1 (h.sl 0 rfl).2 rfl rfl rfl rfl rfl rfl rfl rfl rfl g2 hx2 rfl ?_
  intro w10 p13 k9 S8 h
  refine zp1 rfl (zNER (zp3 rfl (qb ?_)))
  replace h := h.pick [1, 2, 3] rfl
  exact qA m2 [(3, _), (5, _), (7, _), (8, _)] (Nat.lt_succ_self m2) ⟨rfl, rfl, rfl, rfl, trivial⟩ ⟨_, _, _, _, _, _, hF, rfl, h⟩
 refine qI rfl ?_
 obtain rfl := qj hF; replace hF := hK2
 refine zSS ?_
 obtain ⟨KF1, hKF1, o6, hF, hK6⟩ := bindE hF
 refine qem (fun e w' => ∃ (b4 : Bool), KF1 b4 = some r ∧ e = [(3, .pointer (some ⟨bb2, 0, none⟩)), (88, .bool b4)] ∧ SH w w' [Ch.box bb2 [.slice p2 a_1.Instances.length k2, .slice p3 a_1.Nets.length k3, .slice p4 a_1.Ports.length k4] 45]) ?_ ?_
 ·refine qE (zp1 rfl ?_)
  obtain ⟨r1, hr12, hF⟩ := qd hF
  refine ql r1 h call120 (qgZ (h.own 1 rfl) hr12) rfl rfl rfl rfl ?_
  intro w17 h
  refine zp2 rfl ?_
  by_cases hc21 : (!r1) = true
  ·replace hF := bifT hc21 hF
   refine qC hc21 (t := 78) rfl (zn3 rfl (zp2 rfl (zn4 rfl (zp1 rfl (qb ?_)))))
   replace h := h.pick [2] rfl
   obtain rfl := qj hF
   exact qx [(3, _), (88, _)] ⟨rfl, rfl, trivial⟩ ⟨_, hK6, rfl, h⟩
  replace hc21 := zb hc21
  replace hF := bifF hc21 hF
  refine qB hc21 (t := 78) rfl (qa rfl (zp1 rfl (qa rfl ?_)))
  obtain ⟨r2, hr13, hF⟩ := qd hF
  refine ql r2 h call120 (qgZ (h.own 0 rfl) hr13) rfl rfl rfl rfl ?_
  intro w18 h
  refine qa rfl (zp3 rfl ?_)
  by_cases hc22 : (!r2) = true
  ·replace hF := bifT hc22 hF
   refine qC hc22 (t := 83) rfl (zn4 rfl (zp1 rfl (qb ?_)))
   replace h := h.pick [2] rfl
   obtain rfl := qj hF
   exact qx [(3, _), (88, _)] ⟨rfl, rfl, trivial⟩ ⟨_, hK6, rfl, h⟩
  replace hc22 := zb hc22
  replace hF := bifF hc22 hF
  refine qB hc22 (t := 83) rfl (qa rfl (zp1 rfl (qa rfl (zl 2 1 h rfl (qa rfl ?_)))))
  obtain ⟨r3, hr14, hF⟩ := qd hF
  refine ql r3 h call120 (qgZ ⟨_, _, rfl, (h.oldS s3)⟩ hr14) rfl rfl rfl rfl ?_
  intro w19 h
  refine qa rfl (zp2 rfl (qb ?_))
  replace h := h.pick [2] rfl
  obtain rfl := qj hF
  exact qx [(3, _), (88, _)] ⟨rfl, rfl, trivial⟩ ⟨_, hK6, rfl, h⟩
 rintro e6 w20 ⟨b4, hF, rfl, h⟩
 subst hKF1
 refine qq rfl hF ?_ ?_ <;> intro hF
 ·exact zSR (zp1 rfl (qb (qu qc h hF ⟨rfl, trivial⟩)))
 refine zKSR (zp1 rfl (zl 0 1 h rfl (zp1 rfl ?_)))
 obtain ⟨x5, hx3, hF⟩ := qd hF
 obtain ⟨g3, g4, hx3⟩ := qdG hx3
 refine qeu qc Int h rfl rfl rfl rfl rfl rfl rfl rfl rfl g3 g4 hx3 rfl ?_
 intro w11 S9 p14 h
 refine zp1 rfl (zNSSR (zp1 rfl (qb ?_)))
 obtain ⟨o3, hF, hK3⟩ := qd hF
 refine qz (qT [(3, _), (9, _), (10, _)] ⟨rfl, rfl, rfl, trivial⟩ ?_)
 refine qH (fun m e w' => ∃ (x6 : (List Int)) (i3 : Int), qbX a_1 m x6 i3 = some o3 ∧ e = [(3, .pointer (some ⟨bb2, 0, none⟩)), (9, .slice p14 x5.length x5.length), (10, .int .i64 i3)] ∧ SH w w' [Ch.own S9 (x6 : List Int) [.slice p14 x5.length x5.length], Ch.box bb2 [.slice p2 a_1.Instances.length k2, .slice p3 a_1.Nets.length k3, .slice p4 a_1.Ports.length k4] 45]) n ⟨_, _, hF, rfl, h⟩ ?_
 rintro m3 e3 w12 ⟨x6, i3, hF, rfl, h⟩
 rcases m3 with _ | m3
 ·rw [qbX] at hF
  cases hF
 rw [qbX] at hF
 refine zSSR (zp2 rfl (zl 1 0 h rfl (zp2 rfl (qb ?_))))
 refine qq rfl hF ?_ ?_ <;> intro hF
 ·refine zKSBSR (zp1 rfl (zl 1 0 h rfl (zp1 rfl ?_)))
  obtain ⟨y3, hy3, hF⟩ := qd hF
  have he3 := qg hy3
  obtain ⟨b5, o_3, q3, cs5, hp3, hq3, -, hr3, hc8⟩ := s2.at hy3
  obtain ⟨p15, k10, rfl, s6⟩ := qX hr3
  refine zxe hp3 hq3 he3 rfl (zp1 rfl (zc 2 (hc8.below h.below) rfl (zp1 rfl (qb (qE (zp5 rfl ?_))))))
  obtain ⟨y4, hy4, hF⟩ := qd hF
  have he4 := qg hy4
  obtain ⟨b6, o_4, q4, cs6, hp4, hq4, -, hr4, hc9⟩ := s6.at hy4
  obtain rfl := hr4
  refine zxe hp4 hq4 he4 rfl (zc 0 (hc9.below h.below) rfl ?_)
  obtain ⟨y5, hy5, hF⟩ := qd hF
  have he5 := qg hy5
  obtain ⟨b7, o_5, q5, cs7, hp5, hq5, -, hr5, hc10⟩ := (h.sl 0 rfl).1.at hy5
  obtain rfl := hr5
  refine zx hp5 hq5 ⟨he5.1, qa0 he5.2.1 (h.sl 0 rfl).2⟩ rfl (zc 0 hc10 rfl (zp1 rfl ?_))
  obtain ⟨y6, hy6, hF⟩ := qd hF
  have he6 := qg hy6
  obtain ⟨b8, o_6, q6, cs8, hp6, hq6, -, hr6, hc11⟩ := (h.sl 0 rfl).1.at hy6
  obtain rfl := hr6
  refine zx hp6 hq6 ⟨he6.1, qa0 he6.2.1 (h.sl 0 rfl).2⟩ rfl (qfj qc 0 0 (W64 (y5 + 1)) h rfl hy6 hp6 hq6 rfl hc11 rfl rfl rfl rfl rfl rfl rfl ?_)
  intro w13 h
  exact zNER (zp3 rfl (qb (qA m3 [(3, _), (9, _), (10, _)] (Nat.lt_succ_self m3) ⟨rfl, rfl, rfl, trivial⟩ ⟨_, _, hF, rfl, h⟩)))
 refine qI rfl ?_
 obtain rfl := qj hF; replace hF := hK3
 refine zSSR (zp1 rfl (qb ?_))
 obtain ⟨o4, hF, hK4⟩ := qd hF
 refine qz (qT [(3, _), (9, _), (12, _)] ⟨rfl, rfl, rfl, trivial⟩ ?_)
 refine qH (fun m e w' => ∃ (x7 : (List Int)) (i4 : Int), qbz a_1 m x7 i4 = some o4 ∧ e = [(3, .pointer (some ⟨bb2, 0, none⟩)), (9, .slice p14 x5.length x5.length), (12, .int .i64 i4)] ∧ SH w w' [Ch.own S9 (x7 : List Int) [.slice p14 x5.length x5.length], Ch.box bb2 [.slice p2 a_1.Instances.length k2, .slice p3 a_1.Nets.length k3, .slice p4 a_1.Ports.length k4] 45]) n ⟨_, _, hF, rfl, h⟩ ?_
 rintro m4 e4 w14 ⟨x7, i4, hF, rfl, h⟩
 rcases m4 with _ | m4
 ·rw [qbz] at hF
  cases hF
 rw [qbz] at hF
 refine zSSR (zp2 rfl (zl 1 2 h rfl (zp2 rfl (qb ?_))))
 refine qq rfl hF ?_ ?_ <;> intro hF
 ·refine zKSBSR (zp1 rfl (zl 1 2 h rfl (zp1 rfl ?_)))
  obtain ⟨y7, hy7, hF⟩ := qd hF
  have he7 := qg hy7
  obtain ⟨b9, o_7, q7, cs9, hp7, hq7, -, hr7, hc13⟩ := s4.at hy7
  obtain rfl := qbt hr7
  refine zxe hp7 hq7 he7 rfl (zp1 rfl (zc 1 (hc13.below h.below) rfl (zp1 rfl (qb ?_))))
  refine qq rfl hF ?_ ?_ <;> intro hF
  ·refine qE (zp2 rfl (zl 1 2 h rfl (zp1 rfl ?_)))
   obtain ⟨y8, hy8, hF⟩ := qd hF
   have he8 := qg hy8
   obtain ⟨b10, o_8, q8, cs10, hp8, hq8, -, hr8, hc15⟩ := s4.at hy8
   obtain rfl := qbt hr8
   refine zxe hp8 hq8 he8 rfl (zp1 rfl (zc 2 (hc15.below h.below) rfl ?_))
   obtain ⟨y9, hy9, hF⟩ := qd hF
   have he9 := qg hy9
   obtain ⟨b11, o_9, q9, cs11, hp9, hq9, -, hr9, hc16⟩ := (h.sl 0 rfl).1.at hy9
   obtain rfl := hr9
   refine zx hp9 hq9 ⟨he9.1, qa0 he9.2.1 (h.sl 0 rfl).2⟩ rfl (zc 0 hc16 rfl (zp1 rfl ?_))
   obtain ⟨y10, hy10, hF⟩ := qd hF
   have he10 := qg hy10
   obtain ⟨b12, o_10, q10, cs12, hp10, hq10, -, hr10, hc17⟩ := (h.sl 0 rfl).1.at hy10
   obtain rfl := hr10
   refine zx hp10 hq10 ⟨he10.1, qa0 he10.2.1 (h.sl 0 rfl).2⟩ rfl (qfj qc 0 0 (W64 (y9 + 1)) h rfl hy10 hp10 hq10 rfl hc17 rfl rfl rfl rfl rfl rfl rfl ?_)
   intro w15 h
   exact zNER (zp3 rfl (qb (qA m4 [(3, _), (9, _), (12, _)] (Nat.lt_succ_self m4) ⟨rfl, rfl, rfl, trivial⟩ ⟨_, _, hF, rfl, h⟩)))
  exact zKER (zp3 rfl (qb (qA m4 [(3, _), (9, _), (12, _)] (Nat.lt_succ_self m4) ⟨rfl, rfl, rfl, trivial⟩ ⟨_, _, hF, rfl, h⟩)))
 refine qI rfl ?_
 obtain rfl := qj hF; replace hF := hK4
 refine zSSR (zp1 rfl (qb ?_))
 obtain ⟨o5, hF, hK5⟩ := qd hF
 refine qz ?_
 replace h := h.pick [0] rfl
 refine qT [(9, _), (13, _)] ⟨rfl, rfl, trivial⟩ ?_
 refine qH (fun m e w' => ∃ (i5 : Int), qcx x5 x7 m i5 = some o5 ∧ e = [(9, .slice p14 x5.length x5.length), (13, .int .i64 i5)] ∧ SH w w' [Ch.own S9 (x7 : List Int) [.slice p14 x5.length x5.length]]) n ⟨_, hF, rfl, h⟩ ?_
 rintro m5 e5 w16 ⟨i5, hF, rfl, h⟩
 rcases m5 with _ | m5
 ·rw [qcx] at hF
  cases hF
 rw [qcx] at hF
 refine zSSR (zp4 rfl (qb ?_))
 refine qq rfl hF ?_ ?_ <;> intro hF
 ·refine zKSBSR (zp2 rfl ?_)
  obtain ⟨y11, hy11, hF⟩ := qd hF
  have he11 := qg hy11
  obtain ⟨b13, o_11, q11, cs13, hp11, hq11, -, hr11, hc19⟩ := (h.sl 0 rfl).1.at hy11
  obtain rfl := hr11
  refine zx hp11 hq11 ⟨he11.1, qa0 he11.2.1 (h.sl 0 rfl).2⟩ rfl (zc 0 hc19 rfl (zp1 rfl (qb ?_)))
  refine qq rfl hF ?_ ?_ <;> intro hF
  ·refine zSR (zp1 rfl (qb ?_))
   obtain rfl := qj hF; replace hF := hK5
   exact qu qc h hF ⟨rfl, trivial⟩
  exact zKER (zp3 rfl (qb (qA m5 [(9, _), (13, _)] (Nat.lt_succ_self m5) ⟨rfl, rfl, trivial⟩ ⟨_, hF, rfl, h⟩)))
 refine qI rfl ?_
 obtain rfl := qj hF; replace hF := hK5
 exact zSR (zp1 rfl (qb (qu qc h hF ⟨rfl, trivial⟩)))

def qdl (a_0 : qad) : Nat → Int → Option (Flow Bool Int)
 | 0, _ => none
 | n + 1, i2 =>
  bif decide (i2 < (a_0.Sink.length : Int)) then
   (idx a_0.Sink i2).bind fun y7 =>
   (qam n y7 0 (W64 ((a_0.Parent.length : Int) - 1))).bind fun r5 =>
   bif (!r5) then
    some (.ret false)
   else
    qdl a_0 n (W64 (i2 + 1))
  else
   some (.nxt i2)

def qbS (a_0 : qad) : Nat → Int → Option (Flow Bool Int)
 | 0, _ => none
 | n + 1, i1 =>
  bif decide (i1 < (a_0.Parent.length : Int)) then
   (
    (idx a_0.Cap i1).bind fun y5 =>
    (qam n y5 0 500).bind fun r3 =>
    bif (!r3) then
     some true
    else
     (idx a_0.Res i1).bind fun y6 =>
     (qam n y6 0 1000).bind fun r4 =>
     some (!r4)).bind fun b2 =>
   bif b2 then
    some (.ret false)
   else
    bif (i1 == 0) then
     (idx a_0.Parent i1).bind fun y1 =>
     bif (y1 != (-1)) then
      some (.ret false)
     else
      (idx a_0.Res i1).bind fun y2 =>
      bif (y2 != 0) then
       some (.ret false)
      else
       bif decide (i1 > 0) then
        (idx a_0.Parent i1).bind fun y3 =>
        (qam n y3 0 (W64 (i1 - 1))).bind fun r1 =>
        bif (!r1) then
         some (.ret false)
        else
         qbS a_0 n (W64 (i1 + 1))
       else
        qbS a_0 n (W64 (i1 + 1))
    else
     bif decide (i1 > 0) then
      (idx a_0.Parent i1).bind fun y4 =>
      (qam n y4 0 (W64 (i1 - 1))).bind fun r2 =>
      bif (!r2) then
       some (.ret false)
      else
       qbS a_0 n (W64 (i1 + 1))
     else
      qbS a_0 n (W64 (i1 + 1))
  else
   some (.nxt i1)

def qhn (n : Nat) (a_0 : qad) (a_1 : Int) : Option Bool :=
 (
  bif decide ((a_0.Parent.length : Int) < 1) then
   some true
  else
   bif decide ((a_0.Parent.length : Int) > 8) then
    some true
   else
    bif ((a_0.Res.length : Int) != (a_0.Parent.length : Int)) then
     some true
    else
     bif ((a_0.Cap.length : Int) != (a_0.Parent.length : Int)) then
      some true
     else
      some ((a_0.Sink.length : Int) != a_1)).bind fun b1 =>
 bif b1 then
  some false
 else
  (qbS a_0 n 0).bind fun o => match o with
  | .ret r => some r
  | .nxt _ =>
   (qdl a_0 n 0).bind fun o => match o with
   | .ret r => some r
   | .nxt _ =>
    some true

theorem qlF {n : Nat} {w : World} {a_0 : qad} {a_1 : Int} {cs1 : List Value} (ha1 : GoT.R w (old w) a_0 cs1) {r : Bool} (hF : qhn n a_0 a_1 = some r) : RetV Tryz.prog 68 [GoT.v qad cs1, .int .i64 a_1] w r := by
 obtain ⟨p1, k1, p2, k2, p3, k3, p4, k4, rfl, s1, s2, s3, s4⟩ := qbI ha1
 refine qe Tryz.func68 rfl (m := 108) rfl rfl (fun h => ?_)
 rw [qhn] at hF
 refine zSR (qM h rfl rfl ?_)
 intro w1 bb1 h
 refine zp1 rfl (zNSR (zp1 rfl (zl 0 0 h rfl (zp2 rfl (zNSS ?_)))))
 obtain ⟨KF2, hKF2, o4, hF, hK4⟩ := bindE hF
 refine qem (fun e w' => ∃ (b1 : Bool), KF2 b1 = some r ∧ e = [(2, .pointer (some ⟨bb1, 0, none⟩)), (5, .int .i64 (a_0.Parent.length : Int)), (37, .bool b1)] ∧ SH w w' [Ch.box bb1 [.slice p1 a_0.Parent.length k1, .slice p2 a_0.Res.length k2, .slice p3 a_0.Cap.length k3, .slice p4 a_0.Sink.length k4] 117]) ?_ ?_
 ·refine qE (zp3 rfl ?_)
  by_cases hc21 : (decide ((a_0.Parent.length : Int) < 1)) = true
  ·replace hF := bifT hc21 hF
   refine qC hc21 (t := 13) rfl (zn2 rfl (zp2 rfl (zn5 rfl (zp2 rfl ?_))))
   refine zn5 rfl (zp2 rfl (zn5 rfl ?_))
   refine zp1 rfl (qb ?_)
   obtain rfl := qj hF
   exact qx [(2, _), (5, _), (37, _)] ⟨rfl, rfl, rfl, trivial⟩ ⟨_, hK4, rfl, h⟩
  replace hc21 := zb hc21
  replace hF := bifF hc21 hF
  refine qB hc21 (t := 13) rfl (qa rfl (zp1 rfl (qa rfl (zp3 rfl ?_))))
  by_cases hc22 : (decide ((a_0.Parent.length : Int) > 8)) = true
  ·replace hF := bifT hc22 hF
   refine qC hc22 (t := 17) rfl (zn5 rfl (zp2 rfl (zn4 rfl ?_)))
   refine zn1 rfl (zp2 rfl (zn5 rfl (zp1 rfl (qb ?_))))
   obtain rfl := qj hF
   exact qx [(2, _), (5, _), (37, _)] ⟨rfl, rfl, rfl, trivial⟩ ⟨_, hK4, rfl, h⟩
  replace hc22 := zb hc22
  replace hF := bifF hc22 hF
  refine qB hc22 (t := 17) rfl (qa rfl (zp1 rfl (qa rfl (zl 0 1 h rfl (qa rfl (zp1 rfl (qa rfl (zp1 rfl (qa rfl (zp2 rfl ?_))))))))))
  refine zp1 rfl ?_
  by_cases hc23 : ((a_0.Res.length : Int) != (a_0.Parent.length : Int)) = true
  ·replace hF := bifT hc23 hF
   refine qC hc23 (t := 24) rfl (zn5 rfl (zp2 rfl (zn4 rfl ?_)))
   refine zn1 rfl (zp1 rfl (qb ?_))
   obtain rfl := qj hF
   exact qx [(2, _), (5, _), (37, _)] ⟨rfl, rfl, rfl, trivial⟩ ⟨_, hK4, rfl, h⟩
  replace hc23 := zb hc23
  replace hF := bifF hc23 hF
  refine qB hc23 (t := 24) rfl (qa rfl (zp1 rfl (qa rfl (zl 0 2 h rfl (qa rfl (zp1 rfl (qa rfl (zp1 rfl (qa rfl (zp2 rfl ?_))))))))))
  refine zp1 rfl ?_
  by_cases hc24 : ((a_0.Cap.length : Int) != (a_0.Parent.length : Int)) = true
  ·replace hF := bifT hc24 hF
   refine qC hc24 (t := 31) rfl (zn5 rfl (zp1 rfl (qb ?_)))
   obtain rfl := qj hF
   exact qx [(2, _), (5, _), (37, _)] ⟨rfl, rfl, rfl, trivial⟩ ⟨_, hK4, rfl, h⟩
  replace hc24 := zb hc24
  replace hF := bifF hc24 hF
  refine qB hc24 (t := 31) rfl (qa rfl (zp1 rfl (qa rfl (zl 0 3 h rfl (qa rfl (zp1 rfl (qa rfl (zp1 rfl (qa rfl (zp2 rfl ?_))))))))))
  refine qb ?_
  obtain rfl := qj hF
  exact qx [(2, _), (5, _), (37, _)] ⟨rfl, rfl, rfl, trivial⟩ ⟨_, hK4, rfl, h⟩
 rintro e4 w10 ⟨b1, hF, rfl, h⟩
 subst hKF2
 refine qq rfl hF ?_ ?_ <;> intro hF
 ·exact zSR (zp1 rfl (qb (qu qc h hF ⟨rfl, trivial⟩)))
 refine zKSSR (zp1 rfl (qb ?_))
 obtain ⟨o1, hF, hK1⟩ := qd hF
 refine qz (qT [(2, _), (5, _), (6, _)] ⟨rfl, rfl, rfl, trivial⟩ ?_)
 refine qH (fun m e w' => ∃ (i1 : Int), qbS a_0 m i1 = some o1 ∧ e = [(2, .pointer (some ⟨bb1, 0, none⟩)), (5, .int .i64 (a_0.Parent.length : Int)), (6, .int .i64 i1)] ∧ SH w w' [Ch.box bb1 [.slice p1 a_0.Parent.length k1, .slice p2 a_0.Res.length k2, .slice p3 a_0.Cap.length k3, .slice p4 a_0.Sink.length k4] 117]) n ⟨_, hF, rfl, h⟩ ?_
 rintro m1 e1 w2 ⟨i1, hF, rfl, h⟩
 rcases m1 with _ | m1
 ·rw [qbS] at hF
  cases hF
 rw [qbS] at hF
 refine zSSR (zp3 rfl (qb ?_))
 refine qq rfl hF ?_ ?_ <;> intro hF
 ·refine zKSB (zSS ?_)
  obtain ⟨KF1, hKF1, o2, hF, hK2⟩ := bindE hF
  refine qem (fun e w' => ∃ (b2 : Bool), KF1 b2 = some o1 ∧ e = [(2, .pointer (some ⟨bb1, 0, none⟩)), (5, .int .i64 (a_0.Parent.length : Int)), (6, .int .i64 i1), (58, .bool b2)] ∧ SH w w' [Ch.box bb1 [.slice p1 a_0.Parent.length k1, .slice p2 a_0.Res.length k2, .slice p3 a_0.Cap.length k3, .slice p4 a_0.Sink.length k4] 117]) ?_ ?_
  ·refine qE (zp1 rfl (zl 0 2 h rfl (zp1 rfl ?_)))
   obtain ⟨y5, hy5, hF⟩ := qd hF
   have he5 := qg hy5
   obtain ⟨b7, o_5, q5, cs6, hp5, hq5, -, hr7, hc15⟩ := s3.at hy5
   obtain rfl := hr7
   refine zxe hp5 hq5 he5 rfl (zc 0 (hc15.below h.below) rfl ?_)
   obtain ⟨r3, hr8, hF⟩ := qd hF
   refine ql r3 h call35 (qaf hr8) rfl rfl rfl rfl ?_
   intro w5 h
   refine zp2 rfl ?_
   by_cases hc16 : (!r3) = true
   ·replace hF := bifT hc16 hF
    refine qC hc16 (t := 50) rfl (zn5 rfl (zn2 rfl (zp1 rfl (qb ?_))))
    obtain rfl := qj hF
    exact qx [(2, _), (5, _), (6, _), (58, _)] ⟨rfl, rfl, rfl, rfl, trivial⟩ ⟨_, hK2, rfl, h⟩
   replace hc16 := zb hc16
   replace hF := bifF hc16 hF
   refine qB hc16 (t := 50) rfl (qa rfl (zp1 rfl (qa rfl (zl 0 1 h rfl (qa rfl (zp1 rfl (qa rfl ?_)))))))
   obtain ⟨y6, hy6, hF⟩ := qd hF
   have he6 := qg hy6
   obtain ⟨b8, o_6, q6, cs7, hp6, hq6, -, hr9, hc17⟩ := s2.at hy6
   obtain rfl := hr9
   refine zxe hp6 hq6 he6 rfl (qa rfl (zc 0 (hc17.below h.below) rfl (qa rfl ?_)))
   obtain ⟨r4, hr10, hF⟩ := qd hF
   refine ql r4 h call35 (qaf hr10) rfl rfl rfl rfl ?_
   intro w6 h
   refine qa rfl (zp2 rfl (qb ?_))
   obtain rfl := qj hF
   exact qx [(2, _), (5, _), (6, _), (58, _)] ⟨rfl, rfl, rfl, rfl, trivial⟩ ⟨_, hK2, rfl, h⟩
  rintro e2 w7 ⟨b2, hF, rfl, h⟩
  subst hKF1
  refine qq rfl hF ?_ ?_ <;> intro hF
  ·refine zSR (zp1 rfl (qb ?_))
   obtain rfl := qj hF; replace hF := hK1
   exact qu qc h hF ⟨rfl, trivial⟩
  refine zKSR (zp3 rfl ?_)
  by_cases hc4 : (i1 == 0) = true
  ·replace hF := bifT hc4 hF
   refine qC hc4 (t := 61) rfl (qa rfl (zp1 rfl (qa rfl (zl 0 0 h rfl (qa rfl (zp1 rfl (qa rfl ?_)))))))
   obtain ⟨y1, hy1, hF⟩ := qd hF
   have he1 := qg hy1
   obtain ⟨b3, o_1, q1, cs2, hp1, hq1, -, hr1, hc5⟩ := s1.at hy1
   obtain rfl := hr1
   refine zxe hp1 hq1 he1 rfl (qa rfl (zc 0 (hc5.below h.below) rfl (qa rfl (zp1 rfl (qa rfl (zp1 rfl ?_))))))
   by_cases hc6 : (y1 != (-1)) = true
   ·replace hF := bifT hc6 hF
    refine qC hc6 (t := 68) rfl (zn5 rfl (zn1 rfl (qa rfl (zp3 rfl (zn1 rfl ?_)))))
    refine zn5 rfl (zn5 rfl (zn2 rfl ?_))
    refine zp1 rfl (qb (qef rfl rfl (zSR (zp1 rfl (qb ?_)))))
    obtain rfl := qj hF; replace hF := hK1
    exact qu qc h hF ⟨rfl, trivial⟩
   replace hc6 := zb hc6
   replace hF := bifF hc6 hF
   refine qB hc6 (t := 68) rfl (qa rfl (zp1 rfl (qa rfl (zl 0 1 h rfl (qa rfl (zp1 rfl (qa rfl ?_)))))))
   obtain ⟨y2, hy2, hF⟩ := qd hF
   have he2 := qg hy2
   obtain ⟨b4, o_2, q2, cs3, hp2, hq2, -, hr2, hc7⟩ := s2.at hy2
   obtain rfl := hr2
   refine zxe hp2 hq2 he2 rfl (qa rfl (zc 0 (hc7.below h.below) rfl (qa rfl (zp1 rfl (qa rfl (zp3 rfl ?_))))))
   by_cases hc8 : (y2 != 0) = true
   ·replace hF := bifT hc8 hF
    refine qC hc8 (t := 77) rfl (zn5 rfl (zn5 rfl (zn1 rfl ?_)))
    refine zn2 rfl (zp1 rfl (qb (qef rfl rfl (zSR (zp1 rfl (qb ?_))))))
    obtain rfl := qj hF; replace hF := hK1
    exact qu qc h hF ⟨rfl, trivial⟩
   replace hc8 := zb hc8
   replace hF := bifF hc8 hF
   refine qB hc8 (t := 77) rfl (qa rfl (zp1 rfl (qa rfl (zp1 rfl (qa rfl (zp1 rfl ?_))))))
   by_cases hc9 : (decide (i1 > 0)) = true
   ·replace hF := bifT hc9 hF
    refine qC hc9 (t := 80) rfl (qa rfl (zp1 rfl (qa rfl (zl 0 0 h rfl (qa rfl (zp1 rfl (qa rfl ?_)))))))
    obtain ⟨y3, hy3, hF⟩ := qd hF
    have he3 := qg hy3
    obtain ⟨b5, o_3, q3, cs4, hp3, hq3, -, hr3, hc10⟩ := s1.at hy3
    obtain rfl := hr3
    refine zxe hp3 hq3 he3 rfl (qa rfl (zc 0 (hc10.below h.below) rfl (qa rfl (zp1 rfl (qa rfl (zp1 rfl (qa rfl ?_)))))))
    obtain ⟨r1, hr4, hF⟩ := qd hF
    refine ql r1 h call35 (qaf hr4) rfl rfl rfl rfl ?_
    intro w3 h
    refine qa rfl (zp1 rfl (qa rfl (zp2 rfl (qb ?_))))
    refine qq rfl hF ?_ ?_ <;> intro hF
    ·refine zSR (zp1 rfl (qb ?_))
     obtain rfl := qj hF; replace hF := hK1
     exact qu qc h hF ⟨rfl, trivial⟩
    exact zKER (zp3 rfl (qb (qA m1 [(2, _), (5, _), (6, _)] (Nat.lt_succ_self m1) ⟨rfl, rfl, rfl, trivial⟩ ⟨_, hF, rfl, h⟩)))
   replace hc9 := zb hc9
   replace hF := bifF hc9 hF
   refine qB hc9 (t := 80) rfl (zn5 rfl (zn4 rfl (qa rfl (zp1 rfl ?_))))
   exact zp1 rfl (qb (qc3 rfl rfl (zKER (zp3 rfl (qb (qA m1 [(2, _), (5, _), (6, _)] (Nat.lt_succ_self m1) ⟨rfl, rfl, rfl, trivial⟩ ⟨_, hF, rfl, h⟩))))))
  replace hc4 := zb hc4
  replace hF := bifF hc4 hF
  refine qB hc4 (t := 61) rfl (zn5 rfl (zn5 rfl (zn1 rfl ?_)))
  refine zn3 rfl (zp2 rfl (qa rfl (zp1 rfl (qa rfl (zp1 rfl (qa rfl (zp1 rfl ?_)))))))
  by_cases hc12 : (decide (i1 > 0)) = true
  ·replace hF := bifT hc12 hF
   refine qC hc12 (t := 80) rfl (qa rfl (zp1 rfl (qa rfl (zl 0 0 h rfl (qa rfl (zp1 rfl (qa rfl ?_)))))))
   obtain ⟨y4, hy4, hF⟩ := qd hF
   have he4 := qg hy4
   obtain ⟨b6, o_4, q4, cs5, hp4, hq4, -, hr5, hc13⟩ := s1.at hy4
   obtain rfl := hr5
   refine zxe hp4 hq4 he4 rfl (qa rfl (zc 0 (hc13.below h.below) rfl (qa rfl (zp1 rfl (qa rfl (zp1 rfl (qa rfl ?_)))))))
   obtain ⟨r2, hr6, hF⟩ := qd hF
   refine ql r2 h call35 (qaf hr6) rfl rfl rfl rfl ?_
   intro w4 h
   refine qa rfl (zp1 rfl (qa rfl (zp2 rfl (qb ?_))))
   refine qq rfl hF ?_ ?_ <;> intro hF
   ·refine zSR (zp1 rfl (qb ?_))
    obtain rfl := qj hF; replace hF := hK1
    exact qu qc h hF ⟨rfl, trivial⟩
   exact zKER (zp3 rfl (qb (qA m1 [(2, _), (5, _), (6, _)] (Nat.lt_succ_self m1) ⟨rfl, rfl, rfl, trivial⟩ ⟨_, hF, rfl, h⟩)))
  replace hc12 := zb hc12
  replace hF := bifF hc12 hF
  refine qB hc12 (t := 80) rfl (zn5 rfl (zn4 rfl (qa rfl (zp1 rfl ?_))))
  exact zp1 rfl (qb (qc3 rfl rfl (zKER (zp3 rfl (qb (qA m1 [(2, _), (5, _), (6, _)] (Nat.lt_succ_self m1) ⟨rfl, rfl, rfl, trivial⟩ ⟨_, hF, rfl, h⟩))))))
 refine qI rfl ?_
 obtain rfl := qj hF; replace hF := hK1
 refine zSSR (zp1 rfl (qb ?_))
 obtain ⟨o3, hF, hK3⟩ := qd hF
 refine qz (qT [(2, _), (5, _), (7, _)] ⟨rfl, rfl, rfl, trivial⟩ ?_)
 refine qH (fun m e w' => ∃ (i2 : Int), qdl a_0 m i2 = some o3 ∧ e = [(2, .pointer (some ⟨bb1, 0, none⟩)), (5, .int .i64 (a_0.Parent.length : Int)), (7, .int .i64 i2)] ∧ SH w w' [Ch.box bb1 [.slice p1 a_0.Parent.length k1, .slice p2 a_0.Res.length k2, .slice p3 a_0.Cap.length k3, .slice p4 a_0.Sink.length k4] 117]) n ⟨_, hF, rfl, h⟩ ?_
 rintro m2 e3 w8 ⟨i2, hF, rfl, h⟩
 rcases m2 with _ | m2
 ·rw [qdl] at hF
  cases hF
 rw [qdl] at hF
 refine zSSR (zp2 rfl (zl 0 3 h rfl (zp2 rfl (qb ?_))))
 refine qq rfl hF ?_ ?_ <;> intro hF
 ·refine zKSBSR (zp1 rfl (zl 0 3 h rfl (zp1 rfl ?_)))
  obtain ⟨y7, hy7, hF⟩ := qd hF
  have he7 := qg hy7
  obtain ⟨b9, o_7, q7, cs8, hp7, hq7, -, hr11, hc19⟩ := s4.at hy7
  obtain rfl := hr11
  refine zxe hp7 hq7 he7 rfl (zc 0 (hc19.below h.below) rfl (zp2 rfl ?_))
  obtain ⟨r5, hr12, hF⟩ := qd hF
  refine ql r5 h call35 (qaf hr12) rfl rfl rfl rfl ?_
  intro w9 h
  refine zp1 rfl (qb ?_)
  refine qq rfl hF ?_ ?_ <;> intro hF
  ·refine zSR (zp1 rfl (qb ?_))
   obtain rfl := qj hF; replace hF := hK3
   exact qu qc h hF ⟨rfl, trivial⟩
  exact zKER (zp3 rfl (qb (qA m2 [(2, _), (5, _), (7, _)] (Nat.lt_succ_self m2) ⟨rfl, rfl, rfl, trivial⟩ ⟨_, hF, rfl, h⟩)))
 refine qI rfl ?_
 obtain rfl := qj hF; replace hF := hK3
 exact zSR (zp1 rfl (qb (qu qc h hF ⟨rfl, trivial⟩)))

def qbO (i1 : Int) (y1 : qp) : Nat → (List Tl05Place) → Int → Option ((List Tl05Place) × Int)
 | 0, _, _ => none
 | n + 1, x2, i2 =>
  bif decide (i2 < (y1.Nets.length : Int)) then
   (idx y1.Nets i2).bind fun y2 =>
   (appS x2 ([(⟨i1, i2, y2, (i2 == (W64 ((y1.Nets.length : Int) - 1)))⟩ : Tl05Place)] : List Tl05Place)).bind fun x3 =>
   qbO i1 y1 n x3 (W64 (i2 + 1))
  else
   some (x2, i2)

def qbL (a_0 : qk) : Nat → (List Tl05Place) → Int → Option ((List Tl05Place) × Int)
 | 0, _, _ => none
 | n + 1, x4, i3 =>
  bif decide (i3 < (a_0.Ports.length : Int)) then
   (idx a_0.Ports i3).bind fun y3 =>
   (idx a_0.Ports i3).bind fun y4 =>
   (appS x4 ([(⟨(-1), i3, y3.Net, (y4.Dir == 1)⟩ : Tl05Place)] : List Tl05Place)).bind fun x5 =>
   qbL a_0 n x5 (W64 (i3 + 1))
  else
   some (x4, i3)

def qbP (a_0 : qk) : Nat → (List Tl05Place) → Int → Option ((List Tl05Place) × Int)
 | 0, _, _ => none
 | n + 1, x1, i1 =>
  bif decide (i1 < (a_0.Instances.length : Int)) then
   (idx a_0.Instances i1).bind fun y1 =>
   (qbO i1 y1 n x1 0).bind fun o => match o with
   | (x2, _) =>
    qbP a_0 n x2 (W64 (i1 + 1))
  else
   some (x1, i1)

def qcD (n : Nat) (a_0 : qk) : Option (List Tl05Place) :=
 (qbP a_0 n ([] : List Tl05Place) 0).bind fun o => match o with
 | (x1, _) =>
  (qbL a_0 n x1 0).bind fun o => match o with
  | (x4, _) =>
   some x4

theorem qek {n : Nat} {w : World} {a_0 : qk} {cs1 : List Value} (ha1 : GoT.R w (old w) a_0 cs1) {r : (List Tl05Place)} (hF : qcD n a_0 = some r) : RetV Tryz.prog 93 [GoT.v qk cs1] w r := by
 obtain ⟨p1, k1, p2, k2, p3, k3, rfl, s1, s2, s3⟩ := qan ha1
 refine qe Tryz.func93 rfl (m := 69) rfl rfl (fun h => ?_)
 rw [qcD] at hF
 refine zSR (qM h rfl rfl ?_)
 intro w1 bb1 h
 refine zp1 rfl (zNSR (qaP qc [] _ ([] : List Tl05Place) h rfl rfl rfl rfl rfl rfl rfl rfl rfl trivial rfl ?_))
 intro w2 p4 S1 h
 refine zp1 rfl (zNSSR (zp1 rfl (qb ?_)))
 obtain ⟨o1, hF, hK1⟩ := qd hF
 refine qz (qT [(1, _), (3, _), (4, _)] ⟨rfl, rfl, rfl, trivial⟩ ?_)
 refine qH (fun m e w' => ∃ (S2 : Nat → Prop) (p5 : Option Addr) (ln1 : Nat) (k4 : Nat) (x1 : (List Tl05Place)) (i1 : Int), qbP a_0 m x1 i1 = some o1 ∧ e = [(1, .pointer (some ⟨bb1, 0, none⟩)), (3, .slice p5 ln1 k4), (4, .int .i64 i1)] ∧ SH w w' [Ch.own S2 (x1 : List Tl05Place) [.slice p5 ln1 k4], Ch.box bb1 [.slice p1 a_0.Instances.length k1, .slice p2 a_0.Nets.length k2, .slice p3 a_0.Ports.length k3] 45]) n ⟨_, _, _, _, _, _, hF, rfl, h⟩ ?_
 rintro m1 e1 w3 ⟨S2, p5, ln1, k4, x1, i1, hF, rfl, h⟩
 obtain rfl := (h.sl 0 rfl).2
 rcases m1 with _ | m1
 ·rw [qbP] at hF
  cases hF
 rw [qbP] at hF
 refine zSSR (zp2 rfl (zl 1 0 h rfl (zp2 rfl (qb ?_))))
 refine qq rfl hF ?_ ?_ <;> intro hF
 ·refine zKSBSR (zp1 rfl (zl 1 0 h rfl (zp1 rfl ?_)))
  obtain ⟨y1, hy1, hF⟩ := qd hF
  have he1 := qg hy1
  obtain ⟨b1, o_1, q1, cs2, hp1, hq1, -, hr1, hc2⟩ := s1.at hy1
  obtain ⟨p6, k5, rfl, s4⟩ := qX hr1
  refine zxe hp1 hq1 he1 rfl (zp1 rfl (zc 2 (hc2.below h.below) rfl (zp1 rfl (zNSR (zp1 rfl (qb ?_))))))
  obtain ⟨o2, hF, hK2⟩ := qd hF
  refine qz (qT [(1, _), (3, _), (4, _), (5, _), (6, _)] ⟨rfl, rfl, rfl, rfl, rfl, trivial⟩ ?_)
  refine qH (fun m e w' => ∃ (S3 : Nat → Prop) (p7 : Option Addr) (ln2 : Nat) (k6 : Nat) (x2 : (List Tl05Place)) (i2 : Int), qbO i1 y1 m x2 i2 = some o2 ∧ e = [(1, .pointer (some ⟨bb1, 0, none⟩)), (3, .slice p7 ln2 k6), (4, .int .i64 i1), (5, .slice p6 y1.Nets.length k5), (6, .int .i64 i2)] ∧ SH w w' [Ch.own S3 (x2 : List Tl05Place) [.slice p7 ln2 k6], Ch.box bb1 [.slice p1 a_0.Instances.length k1, .slice p2 a_0.Nets.length k2, .slice p3 a_0.Ports.length k3] 45]) m1 ⟨_, _, _, _, _, _, hF, rfl, h⟩ ?_
  rintro m2 e2 w4 ⟨S3, p7, ln2, k6, x2, i2, hF, rfl, h⟩
  obtain rfl := (h.sl 0 rfl).2
  rcases m2 with _ | m2
  ·rw [qbO] at hF
   cases hF
  rw [qbO] at hF
  refine zSSR (zp4 rfl (qb ?_))
  refine qq rfl hF ?_ ?_ <;> intro hF
  ·refine zKSBR (zp5 rfl ?_)
   obtain ⟨y2, hy2, hF⟩ := qd hF
   have he2 := qg hy2
   obtain ⟨b2, o_2, q2, cs3, hp2, hq2, -, hr2, hc4⟩ := s4.at hy2
   obtain rfl := hr2
   refine zxe hp2 hq2 he2 rfl (zc 0 (hc4.below h.below) rfl (zp5 rfl (r_v (qgr qc [0, 1, 2, 3] [.tmp 29, .tmp 30, .tmp 34, .tmp 39] rfl rfl rfl rfl rfl rfl rfl rfl) rfl (qaP qc [.tmp 40] _ ([(⟨i1, i2, y2, (i2 == (W64 ((y1.Nets.length : Int) - 1)))⟩ : Tl05Place)] : List Tl05Place) h rfl rfl rfl rfl rfl rfl rfl rfl rfl ⟨(qf1 (⟨i1, i2, y2, (i2 == (W64 ((y1.Nets.length : Int) - 1)))⟩ : Tl05Place)), trivial⟩ rfl ?_))))
   intro w5 p8 S4 h
   obtain ⟨x3, hx1, hF⟩ := qd hF
   obtain ⟨g1, hx1⟩ := qbr hx1
   refine qeq qc 1 h rfl (h.sl 0 rfl).1 (h.sl 0 rfl).2 rfl rfl rfl rfl rfl rfl rfl rfl rfl g1 hx1 rfl ?_
   intro w6 p9 k7 S5 h
   refine zp1 rfl (zNER (zp3 rfl (qb ?_)))
   replace h := h.pick [1, 2] rfl
   exact qA m2 [(1, _), (3, _), (4, _), (5, _), (6, _)] (Nat.lt_succ_self m2) ⟨rfl, rfl, rfl, rfl, rfl, trivial⟩ ⟨_, _, _, _, _, _, hF, rfl, h⟩
  refine qI rfl ?_
  obtain rfl := qj hF; replace hF := hK2
  exact qfL (qE (zp3 rfl (qb (qA m1 [(1, _), (3, _), (4, _)] (Nat.lt_succ_self m1) ⟨rfl, rfl, rfl, trivial⟩ ⟨_, _, _, _, _, _, hF, rfl, h⟩))))
 refine qI rfl ?_
 obtain rfl := qj hF; replace hF := hK1
 refine zSSR (zp1 rfl (qb ?_))
 obtain ⟨o3, hF, hK3⟩ := qd hF
 refine qz (qT [(1, _), (3, _), (7, _)] ⟨rfl, rfl, rfl, trivial⟩ ?_)
 refine qH (fun m e w' => ∃ (S6 : Nat → Prop) (p10 : Option Addr) (ln3 : Nat) (k8 : Nat) (x4 : (List Tl05Place)) (i3 : Int), qbL a_0 m x4 i3 = some o3 ∧ e = [(1, .pointer (some ⟨bb1, 0, none⟩)), (3, .slice p10 ln3 k8), (7, .int .i64 i3)] ∧ SH w w' [Ch.own S6 (x4 : List Tl05Place) [.slice p10 ln3 k8], Ch.box bb1 [.slice p1 a_0.Instances.length k1, .slice p2 a_0.Nets.length k2, .slice p3 a_0.Ports.length k3] 45]) n ⟨_, _, _, _, _, _, hF, rfl, h⟩ ?_
 rintro m3 e3 w7 ⟨S6, p10, ln3, k8, x4, i3, hF, rfl, h⟩
 obtain rfl := (h.sl 0 rfl).2
 rcases m3 with _ | m3
 ·rw [qbL] at hF
  cases hF
 rw [qbL] at hF
 refine zSSR (zp2 rfl (zl 1 2 h rfl (zp2 rfl (qb ?_))))
 refine qq rfl hF ?_ ?_ <;> intro hF
 ·refine zKSB ?_
  refine qeO [] (fun w' => SH w w' [Ch.box bb1 [.slice p1 a_0.Instances.length k1, .slice p2 a_0.Nets.length k2, .slice p3 a_0.Ports.length k3] 45]) rfl 19 rfl #[ff, ff, ff, ff, ff, ff, ff, ff, ff, ff, ff, ff, ff, ff, ff, ff, ff, ff, ff] (by kernel_rfl) (fun w8 hb => ?_)
  replace h := h.ext hb
  clear hb
  refine qi 0 rfl #[tt, ff, ff, ff, ff, ff, ff, ff, ff, ff, ff, ff, ff, ff, ff, ff, ff, ff, ff] (by kernel_rfl) (by kernel_rfl) (fun w' hw => v_p qc rfl w') (h.pick [1] rfl) rfl ?_
  refine qi 1 rfl #[tt, tt, ff, ff, ff, ff, ff, ff, ff, ff, ff, ff, ff, ff, ff, ff, ff, ff, ff] (by kernel_rfl) (by kernel_rfl) (fun w' hw => v_p qc rfl w') (h.pick [1] rfl) rfl ?_
  refine qi 2 rfl #[tt, tt, tt, ff, ff, ff, ff, ff, ff, ff, ff, ff, ff, ff, ff, ff, ff, ff, ff] (by kernel_rfl) (by kernel_rfl) (fun w' hw => v_p qc rfl w') (h.pick [1] rfl) rfl ?_
  refine qi 3 rfl #[tt, tt, tt, tt, ff, ff, ff, ff, ff, ff, ff, ff, ff, ff, ff, ff, ff, ff, ff] (by kernel_rfl) (by kernel_rfl) (fun w' hw => qbj qc (hw.box 0 rfl) (j := 2) rfl rfl rfl) (h.pick [1] rfl) rfl ?_
  refine qi 4 rfl #[tt, tt, tt, tt, tt, ff, ff, ff, ff, ff, ff, ff, ff, ff, ff, ff, ff, ff, ff] (by kernel_rfl) (by kernel_rfl) (fun w' hw => v_p qc rfl w') (h.pick [1] rfl) rfl ?_
  obtain ⟨y3, hy3, hF⟩ := qd hF
  have he3 := qg hy3
  obtain ⟨b3, o_3, q3, cs4, hp3, hq3, -, hr3, hc6⟩ := s3.at hy3
  obtain rfl := qbt hr3
  refine qi 5 rfl #[tt, tt, tt, tt, tt, tt, ff, ff, ff, ff, ff, ff, ff, ff, ff, ff, ff, ff, ff] (by kernel_rfl) (by kernel_rfl) (fun w' hw => qe3 qc hp3 hq3 ⟨he3.1, he3.2.1⟩ rfl rfl rfl rfl rfl rfl) (h.pick [1] rfl) rfl ?_
  refine qi 6 rfl #[tt, tt, tt, tt, tt, tt, tt, ff, ff, ff, ff, ff, ff, ff, ff, ff, ff, ff, ff] (by kernel_rfl) (by kernel_rfl) (fun w' hw => v_p qc rfl w') (h.pick [1] rfl) rfl ?_
  refine qi 7 rfl #[tt, tt, tt, tt, tt, tt, tt, tt, ff, ff, ff, ff, ff, ff, ff, ff, ff, ff, ff] (by kernel_rfl) (by kernel_rfl) (fun w' hw => qbj qc (hc6.below hw.below) (j := 2) rfl rfl rfl) (h.pick [1] rfl) rfl ?_
  refine qi 8 rfl #[tt, tt, tt, tt, tt, tt, tt, tt, tt, ff, ff, ff, ff, ff, ff, ff, ff, ff, ff] (by kernel_rfl) (by kernel_rfl) (fun w' hw => v_p qc rfl w') (h.pick [1] rfl) rfl ?_
  refine qi 9 rfl #[tt, tt, tt, tt, tt, tt, tt, tt, tt, tt, ff, ff, ff, ff, ff, ff, ff, ff, ff] (by kernel_rfl) (by kernel_rfl) (fun w' hw => qbj qc (hw.box 0 rfl) (j := 2) rfl rfl rfl) (h.pick [1] rfl) rfl ?_
  refine qi 10 rfl #[tt, tt, tt, tt, tt, tt, tt, tt, tt, tt, tt, ff, ff, ff, ff, ff, ff, ff, ff] (by kernel_rfl) (by kernel_rfl) (fun w' hw => v_p qc rfl w') (h.pick [1] rfl) rfl ?_
  obtain ⟨y4, hy4, hF⟩ := qd hF
  have he4 := qg hy4
  obtain ⟨b4, o_4, q4, cs5, hp4, hq4, -, hr4, hc7⟩ := s3.at hy4
  obtain rfl := qbt hr4
  refine qi 11 rfl #[tt, tt, tt, tt, tt, tt, tt, tt, tt, tt, tt, tt, ff, ff, ff, ff, ff, ff, ff] (by kernel_rfl) (by kernel_rfl) (fun w' hw => qe3 qc hp4 hq4 ⟨he4.1, he4.2.1⟩ rfl rfl rfl rfl rfl rfl) (h.pick [1] rfl) rfl ?_
  refine qi 12 rfl #[tt, tt, tt, tt, tt, tt, tt, tt, tt, tt, tt, tt, tt, ff, ff, ff, ff, ff, ff] (by kernel_rfl) (by kernel_rfl) (fun w' hw => v_p qc rfl w') (h.pick [1] rfl) rfl ?_
  refine qi 13 rfl #[tt, tt, tt, tt, tt, tt, tt, tt, tt, tt, tt, tt, tt, tt, ff, ff, ff, ff, ff] (by kernel_rfl) (by kernel_rfl) (fun w' hw => qbj qc (hc7.below hw.below) (j := 1) rfl rfl rfl) (h.pick [1] rfl) rfl ?_
  refine qi 14 rfl #[tt, tt, tt, tt, tt, tt, tt, tt, tt, tt, tt, tt, tt, tt, tt, ff, ff, ff, ff] (by kernel_rfl) (by kernel_rfl) (fun w' hw => v_p qc rfl w') (h.pick [1] rfl) rfl ?_
  refine qi 15 rfl #[tt, tt, tt, tt, tt, tt, tt, tt, tt, tt, tt, tt, tt, tt, tt, tt, ff, ff, ff] (by kernel_rfl) (by kernel_rfl) (fun w' hw => qgr qc [0, 1, 2, 3] [.const (.int .i64 (-1)), .tmp 51, .tmp 57, .tmp 64] rfl rfl rfl rfl rfl rfl rfl rfl) (h.pick [1] rfl) rfl ?_
  refine qab 16 rfl #[tt, tt, tt, tt, tt, tt, tt, tt, tt, tt, tt, tt, tt, tt, tt, tt, tt, ff, ff] (by kernel_rfl) (by kernel_rfl) ?_
  refine qaP qc [.tmp 65] _ ([(⟨(-1), i3, y3.Net, (y4.Dir == 1)⟩ : Tl05Place)] : List Tl05Place) h rfl rfl rfl rfl rfl rfl rfl rfl rfl ⟨(qf1 (⟨(-1), i3, y3.Net, (y4.Dir == 1)⟩ : Tl05Place)), trivial⟩ rfl ?_
  intro w9 p11 S7 h
  refine qW (fun _ => (h.pick [2] rfl)) ?_
  refine qab 17 rfl #[tt, tt, tt, tt, tt, tt, tt, tt, tt, tt, tt, tt, tt, tt, tt, tt, tt, tt, ff] (by kernel_rfl) (by kernel_rfl) ?_
  obtain ⟨x5, hx2, hF⟩ := qd hF
  obtain ⟨g2, hx2⟩ := qbr hx2
  refine qeq qc 1 h rfl (h.sl 0 rfl).1 (h.sl 0 rfl).2 rfl rfl rfl rfl rfl rfl rfl rfl rfl g2 hx2 rfl ?_
  intro w10 p12 k9 S8 h
  refine qW (fun _ => (h.pick [2] rfl)) ?_
  refine qi 18 rfl #[tt, tt, tt, tt, tt, tt, tt, tt, tt, tt, tt, tt, tt, tt, tt, tt, tt, tt, tt] (by kernel_rfl) (by kernel_rfl) (fun w' hw => v_p qc rfl w') (h.pick [2] rfl) rfl ?_
  refine qcp (by kernel_rfl) ?_
  refine qfL (qE (zp3 rfl (qb ?_)))
  replace h := h.pick [1, 2] rfl
  exact qA m3 [(1, _), (3, _), (7, _)] (Nat.lt_succ_self m3) ⟨rfl, rfl, rfl, trivial⟩ ⟨_, _, _, _, _, _, hF, rfl, h⟩
 refine qI rfl ?_
 obtain rfl := qj hF; replace hF := hK3
 refine zSR (zp2 rfl (qb ?_))
 obtain rfl := qj hF
 exact qap qc (ρ := (List Tl05Place)) [GoT.v (List Tl05Place) [.slice p10 x4.length k8]] h ⟨rfl, trivial⟩ (PV.done h (qav (qaz 0 h rfl)))

def qbC (net : Int) (r1 : (List Tl05Place)) : Nat → (List Int) → Int → Option ((List Int) × Int)
 | 0, _, _ => none
 | n + 1, x1, i1 =>
  bif decide (i1 < (r1.length : Int)) then
   (
    (idx r1 i1).bind fun y1 =>
    bif (y1.net == net) then
     (idx r1 i1).bind fun y2 =>
     some (!y2.drives)
    else
     some false).bind fun b1 =>
   bif b1 then
    (appS x1 ([i1] : List Int)).bind fun x2 =>
    qbC net r1 n x2 (W64 (i1 + 1))
   else
    qbC net r1 n x1 (W64 (i1 + 1))
  else
   some (x1, i1)

def qfd (n : Nat) (d : qk) (net : Int) : Option (List Int) :=
 (qcD n d).bind fun r1 =>
 (qbC net r1 n ([] : List Int) 0).bind fun o => match o with
 | (x1, _) =>
  some x1

theorem qiy {n : Nat} {w : World} {d : qk} {net : Int} {cs1 : List Value} (ha1 : GoT.R w (old w) d cs1) {r : (List Int)} (hF : qfd n d net = some r) : RetV Tryz.prog 69 [GoT.v qk cs1, .int .i64 net] w r := by
 obtain ⟨p1, k1, p2, k2, p3, k3, rfl, s1, s2, s3⟩ := qan ha1
 refine qe Tryz.func69 rfl (m := 37) rfl rfl (fun h => ?_)
 rw [qfd] at hF
 refine zSR (qM h rfl rfl ?_)
 intro w1 bb1 h
 refine zp1 rfl (zNSR (qaP qc [] _ ([] : List Int) h rfl rfl rfl rfl rfl rfl rfl rfl rfl trivial rfl ?_))
 intro w2 p4 S1 h
 refine zp1 rfl (zNSR (zl 1 0 h rfl ?_))
 obtain ⟨r1, hr1, hF⟩ := qd hF
 refine qak r1 h call93 (qek (h.old ha1) hr1) rfl rfl rfl rfl ?_
 intro w3 S2 p5 k4 h
 refine zp1 rfl (zNSSR (zp1 rfl (qb ?_)))
 obtain ⟨o1, hF, hK1⟩ := qd hF
 refine qz ?_
 replace h := h.pick [0, 1] rfl
 refine qT [(1, _), (5, _), (6, _), (7, _)] ⟨rfl, rfl, rfl, rfl, trivial⟩ ?_
 refine qH (fun m e w' => ∃ (S3 : Nat → Prop) (p6 : Option Addr) (ln1 : Nat) (k5 : Nat) (x1 : (List Int)) (i1 : Int), qbC net r1 m x1 i1 = some o1 ∧ e = [(1, .int .i64 net), (5, .slice p6 ln1 k5), (6, .slice p5 r1.length k4), (7, .int .i64 i1)] ∧ SH w w' [Ch.own S2 (r1 : List Tl05Place) [.slice p5 r1.length k4], Ch.own S3 (x1 : List Int) [.slice p6 ln1 k5]]) n ⟨_, _, _, _, _, _, hF, rfl, h⟩ ?_
 rintro m1 e1 w4 ⟨S3, p6, ln1, k5, x1, i1, hF, rfl, h⟩
 obtain rfl := (h.sl 1 rfl).2
 rcases m1 with _ | m1
 ·rw [qbC] at hF
  cases hF
 rw [qbC] at hF
 refine zSSR (zp4 rfl (qb ?_))
 refine qq rfl hF ?_ ?_ <;> intro hF
 ·refine zKSB (qbn ?_)
  obtain ⟨KF1, hKF1, o2, hF, hK2⟩ := bindE hF
  refine qem (fun e w' => ∃ (b1 : Bool), KF1 b1 = some o1 ∧ e = [(1, .int .i64 net), (5, .slice p6 x1.length k5), (6, .slice p5 r1.length k4), (7, .int .i64 i1), (31, .bool b1)] ∧ SH w w' [Ch.own S2 (r1 : List Tl05Place) [.slice p5 r1.length k4], Ch.own S3 (x1 : List Int) [.slice p6 x1.length k5]]) ?_ ?_
  ·refine qE (zp2 rfl ?_)
   obtain ⟨y1, hy1, hF⟩ := qd hF
   have he1 := qg hy1
   obtain ⟨b2, o_1, q1, cs2, hp1, hq1, -, hr2, hc3⟩ := (h.sl 0 rfl).1.at hy1
   obtain rfl := qci hr2
   refine zx hp1 hq1 ⟨he1.1, qa0 he1.2.1 (h.sl 0 rfl).2⟩ rfl (zp1 rfl (zc 2 hc3 rfl (zp3 rfl ?_)))
   by_cases hc4 : (y1.net == net) = true
   ·replace hF := bifT hc4 hF
    refine qC hc4 (t := 24) rfl (qa rfl (zp1 rfl (qa rfl (zp1 rfl (qa rfl ?_)))))
    obtain ⟨y2, hy2, hF⟩ := qd hF
    have he2 := qg hy2
    obtain ⟨b3, o_2, q2, cs3, hp2, hq2, -, hr3, hc5⟩ := (h.sl 0 rfl).1.at hy2
    obtain rfl := qci hr3
    refine zx hp2 hq2 ⟨he2.1, qa0 he2.2.1 (h.sl 0 rfl).2⟩ rfl (qa rfl (zp1 rfl (qa rfl (zc 3 hc5 rfl (qa rfl (zp2 rfl (qb ?_)))))))
    obtain rfl := qj hF
    exact qx [(1, _), (5, _), (6, _), (7, _), (31, _)] ⟨rfl, rfl, rfl, rfl, rfl, trivial⟩ ⟨_, hK2, rfl, h⟩
   replace hc4 := zb hc4
   replace hF := bifF hc4 hF
   refine qB hc4 (t := 24) rfl (zn5 rfl (zn1 rfl (zp1 rfl (qb ?_))))
   obtain rfl := qj hF
   exact qx [(1, _), (5, _), (6, _), (7, _), (31, _)] ⟨rfl, rfl, rfl, rfl, rfl, trivial⟩ ⟨_, hK2, rfl, h⟩
  rintro e2 w7 ⟨b1, hF, rfl, h⟩
  subst hKF1
  refine qq rfl hF ?_ ?_ <;> intro hF
  ·refine qE (zp2 rfl (qaP qc [.tmp 33] _ ([i1] : List Int) h rfl rfl rfl rfl rfl rfl rfl rfl rfl ⟨rfl, trivial⟩ rfl ?_))
   intro w5 p7 S4 h
   obtain ⟨x2, hx1, hF⟩ := qd hF
   obtain ⟨g1, hx1⟩ := qbr hx1
   refine qeq qc 2 h rfl (h.sl 0 rfl).1 (h.sl 0 rfl).2 rfl rfl rfl rfl rfl rfl rfl rfl rfl g1 hx1 rfl ?_
   intro w6 p8 k6 S5 h
   refine zp1 rfl (zNER (zp3 rfl (qb ?_)))
   replace h := h.pick [1, 2] rfl
   exact qA m1 [(1, _), (5, _), (6, _), (7, _)] (Nat.lt_succ_self m1) ⟨rfl, rfl, rfl, rfl, trivial⟩ ⟨_, _, _, _, _, _, hF, rfl, h⟩
  exact zKER (zp3 rfl (qb (qA m1 [(1, _), (5, _), (6, _), (7, _)] (Nat.lt_succ_self m1) ⟨rfl, rfl, rfl, rfl, trivial⟩ ⟨_, _, _, _, _, _, hF, rfl, h⟩)))
 refine qI rfl ?_
 obtain rfl := qj hF; replace hF := hK1
 refine zSR (zp2 rfl (qb ?_))
 obtain rfl := qj hF
 exact qap qc (ρ := (List Int)) [GoT.v (List Int) [.slice p6 x1.length k5]] h ⟨rfl, trivial⟩ (PV.done h (qav (qaz 1 h rfl)))

def qc1 (b : qy) : Nat → Int → Option (Flow Bool Int)
 | 0, _ => none
 | n + 1, i1 =>
  bif decide (i1 < (b.Wires.length : Int)) then
   (idx b.Wires i1).bind fun y1 =>
   (qfd n (⟨b.Design.Instances, b.Design.Nets, b.Design.Ports⟩ : qk) i1).bind fun r1 =>
   (qhn n y1 (r1.length : Int)).bind fun r2 =>
   bif (!r2) then
    some (.ret false)
   else
    qc1 b n (W64 (i1 + 1))
  else
   some (.nxt i1)

def qfH (n : Nat) (b : qy) : Option Bool :=
 (
  (qfe n (⟨b.Library.Cells⟩ : qt) (⟨b.Design.Instances, b.Design.Nets, b.Design.Ports⟩ : qk)).bind fun r3 =>
  bif (!r3) then
   some true
  else
   some ((b.Wires.length : Int) != (b.Design.Nets.length : Int))).bind fun b1 =>
 bif b1 then
  some false
 else
  (qc1 b n 0).bind fun o => match o with
  | .ret r => some r
  | .nxt _ =>
   some true

theorem qiQ {n : Nat} {w : World} {b : qy} {cs1 : List Value} (ha1 : GoT.R w (old w) b cs1) {r : Bool} (hF : qfH n b = some r) : RetV Tryz.prog 33 [GoT.v qy cs1] w r := by
 obtain ⟨p1, k1, p2, k2, p3, k3, p4, k4, p5, k5, rfl, s1, s2, s3, s4, s5⟩ := qas ha1
 refine qe Tryz.func33 rfl (m := 39) rfl rfl (fun h => ?_)
 rw [qfH] at hF
 refine zSR (qM h rfl rfl ?_)
 intro w1 bb1 h
 refine zp1 rfl (zNSS ?_)
 obtain ⟨KF1, hKF1, o2, hF, hK2⟩ := bindE hF
 refine qem (fun e w' => ∃ (b1 : Bool), KF1 b1 = some r ∧ e = [(1, .pointer (some ⟨bb1, 0, none⟩)), (19, .bool b1)] ∧ SH w w' [Ch.box bb1 [.slice p1 b.Library.Cells.length k1, .slice p2 b.Design.Instances.length k2, .slice p3 b.Design.Nets.length k3, .slice p4 b.Design.Ports.length k4, .slice p5 b.Wires.length k5] 48]) ?_ ?_
 ·refine qE (zp1 rfl (zl 0 0 h rfl (zp1 rfl (zl 0 1 h rfl ?_))))
  obtain ⟨r3, hr4, hF⟩ := qd hF
  refine ql r3 h call67 (qix (qdc (⟨b.Library.Cells⟩ : qt) (h.oldS s1)) (qba (⟨b.Design.Instances, b.Design.Nets, b.Design.Ports⟩ : qk) (h.oldS s2) (h.oldS s3) (h.oldS s4)) hr4) rfl rfl rfl rfl ?_
  intro w6 h
  refine zp2 rfl ?_
  by_cases hc5 : (!r3) = true
  ·replace hF := bifT hc5 hF
   refine qC hc5 (t := 10) rfl (zn5 rfl (zn3 rfl (zp1 rfl (qb ?_))))
   obtain rfl := qj hF
   exact qx [(1, _), (19, _)] ⟨rfl, rfl, trivial⟩ ⟨_, hK2, rfl, h⟩
  replace hc5 := zb hc5
  replace hF := bifF hc5 hF
  refine qB hc5 (t := 10) rfl (qa rfl (zp1 rfl (qa rfl (zl 0 4 h rfl (qa rfl (zp1 rfl (qa rfl (zp1 rfl (qa rfl (zp1 rfl (qa rfl ?_)))))))))))
  refine zl 0 2 h rfl (qa rfl (zp1 rfl (qa rfl (zp2 rfl (qb ?_)))))
  obtain rfl := qj hF
  exact qx [(1, _), (19, _)] ⟨rfl, rfl, trivial⟩ ⟨_, hK2, rfl, h⟩
 rintro e2 w7 ⟨b1, hF, rfl, h⟩
 subst hKF1
 refine qq rfl hF ?_ ?_ <;> intro hF
 ·exact zSR (zp1 rfl (qb (qu qc h hF ⟨rfl, trivial⟩)))
 refine zKSSR (zp1 rfl (qb ?_))
 obtain ⟨o1, hF, hK1⟩ := qd hF
 refine qz (qT [(1, _), (3, _)] ⟨rfl, rfl, trivial⟩ ?_)
 refine qH (fun m e w' => ∃ (i1 : Int), qc1 b m i1 = some o1 ∧ e = [(1, .pointer (some ⟨bb1, 0, none⟩)), (3, .int .i64 i1)] ∧ SH w w' [Ch.box bb1 [.slice p1 b.Library.Cells.length k1, .slice p2 b.Design.Instances.length k2, .slice p3 b.Design.Nets.length k3, .slice p4 b.Design.Ports.length k4, .slice p5 b.Wires.length k5] 48]) n ⟨_, hF, rfl, h⟩ ?_
 rintro m1 e1 w2 ⟨i1, hF, rfl, h⟩
 rcases m1 with _ | m1
 ·rw [qc1] at hF
  cases hF
 rw [qc1] at hF
 refine zSSR (zp2 rfl (zl 0 4 h rfl (zp2 rfl (qb ?_))))
 refine qq rfl hF ?_ ?_ <;> intro hF
 ·refine zKSB (qbn ?_)
  refine qeO [] (fun w' => SH w w' [Ch.box bb1 [.slice p1 b.Library.Cells.length k1, .slice p2 b.Design.Instances.length k2, .slice p3 b.Design.Nets.length k3, .slice p4 b.Design.Ports.length k4, .slice p5 b.Wires.length k5] 48]) rfl 12 rfl #[ff, ff, ff, ff, ff, ff, ff, ff, ff, ff, ff, ff] (by kernel_rfl) (fun w3 hb => ?_)
  replace h := h.ext hb
  clear hb
  refine qi 0 rfl #[tt, ff, ff, ff, ff, ff, ff, ff, ff, ff, ff, ff] (by kernel_rfl) (by kernel_rfl) (fun w' hw => v_p qc rfl w') (h.pick [0] rfl) rfl ?_
  refine qi 1 rfl #[tt, tt, ff, ff, ff, ff, ff, ff, ff, ff, ff, ff] (by kernel_rfl) (by kernel_rfl) (fun w' hw => qbj qc (hw.box 0 rfl) (j := 4) rfl rfl rfl) (h.pick [0] rfl) rfl ?_
  refine qi 2 rfl #[tt, tt, tt, ff, ff, ff, ff, ff, ff, ff, ff, ff] (by kernel_rfl) (by kernel_rfl) (fun w' hw => v_p qc rfl w') (h.pick [0] rfl) rfl ?_
  obtain ⟨y1, hy1, hF⟩ := qd hF
  have he1 := qg hy1
  obtain ⟨b2, o_1, q1, cs2, hp1, hq1, -, hr1, hc3⟩ := s5.at hy1
  obtain ⟨p6, k6, p7, k7, p8, k8, p9, k9, rfl, s6, s7, s8, s9⟩ := qbI hr1
  refine qi 3 rfl #[tt, tt, tt, tt, ff, ff, ff, ff, ff, ff, ff, ff] (by kernel_rfl) (by kernel_rfl) (fun w' hw => qe3 qc hp1 hq1 ⟨he1.1, he1.2.1⟩ rfl rfl rfl rfl rfl rfl) (h.pick [0] rfl) rfl ?_
  refine qi 4 rfl #[tt, tt, tt, tt, tt, ff, ff, ff, ff, ff, ff, ff] (by kernel_rfl) (by kernel_rfl) (fun w' hw => qbj qc (hc3.below hw.below) (j := 0) rfl rfl rfl) (h.pick [0] rfl) rfl ?_
  refine qi 5 rfl #[tt, tt, tt, tt, tt, tt, ff, ff, ff, ff, ff, ff] (by kernel_rfl) (by kernel_rfl) (fun w' hw => v_p qc rfl w') (h.pick [0] rfl) rfl ?_
  refine qi 6 rfl #[tt, tt, tt, tt, tt, tt, tt, ff, ff, ff, ff, ff] (by kernel_rfl) (by kernel_rfl) (fun w' hw => qbj qc (hw.box 0 rfl) (j := 1) rfl rfl rfl) (h.pick [0] rfl) rfl ?_
  refine qi 7 rfl #[tt, tt, tt, tt, tt, tt, tt, tt, ff, ff, ff, ff] (by kernel_rfl) (by kernel_rfl) (fun w' hw => v_p qc rfl w') (h.pick [0] rfl) rfl ?_
  refine qab 8 rfl #[tt, tt, tt, tt, tt, tt, tt, tt, tt, ff, ff, ff] (by kernel_rfl) (by kernel_rfl) ?_
  obtain ⟨r1, hr2, hF⟩ := qd hF
  refine qak r1 h call69 (qiy (qba (⟨b.Design.Instances, b.Design.Nets, b.Design.Ports⟩ : qk) (h.oldS s2) (h.oldS s3) (h.oldS s4)) hr2) rfl rfl rfl rfl ?_
  intro w4 S1 p10 k10 h
  refine qW (fun _ => (h.pick [1] rfl)) ?_
  refine qi 9 rfl #[tt, tt, tt, tt, tt, tt, tt, tt, tt, tt, ff, ff] (by kernel_rfl) (by kernel_rfl) (fun w' hw => v_p qc rfl w') (h.pick [1] rfl) rfl ?_
  refine qab 10 rfl #[tt, tt, tt, tt, tt, tt, tt, tt, tt, tt, tt, ff] (by kernel_rfl) (by kernel_rfl) ?_
  obtain ⟨r2, hr3, hF⟩ := qd hF
  refine ql r2 h call68 (qlF (qhE y1 (h.oldS s6) (h.oldS s7) (h.oldS s8) (h.oldS s9)) hr3) rfl rfl rfl rfl ?_
  intro w5 h
  refine qW (fun _ => (h.pick [1] rfl)) ?_
  refine qi 11 rfl #[tt, tt, tt, tt, tt, tt, tt, tt, tt, tt, tt, tt] (by kernel_rfl) (by kernel_rfl) (fun w' hw => v_p qc rfl w') (h.pick [1] rfl) rfl ?_
  refine qcp (by kernel_rfl) ?_
  refine qq rfl hF ?_ ?_ <;> intro hF
  ·refine zSR (zp1 rfl (qb ?_))
   obtain rfl := qj hF; replace hF := hK1
   exact qu qc h hF ⟨rfl, trivial⟩
  refine zKER (zp3 rfl (qb ?_))
  replace h := h.pick [1] rfl
  exact qA m1 [(1, _), (3, _)] (Nat.lt_succ_self m1) ⟨rfl, rfl, trivial⟩ ⟨_, hF, rfl, h⟩
 refine qI rfl ?_
 obtain rfl := qj hF; replace hF := hK1
 exact zSR (zp1 rfl (qb (qu qc h hF ⟨rfl, trivial⟩)))

def qaM (_ : Nat) (x : Int) (low : Int) (high : Int) : Option Bool :=
 bif decide (x ≥ low) then
  some (decide (x ≤ high))
 else
  some false

theorem qaw {n : Nat} {w : World} {x : Int} {low : Int} {high : Int}  {r : Bool} (hF : qaM n x low high = some r) : RetV Tryz.prog 100 [.int .i64 x, .int .i64 low, .int .i64 high] w r := by
 refine qe Tryz.func100 rfl (m := 15) rfl rfl (fun h => ?_)
 rw [qaM] at hF
 refine zSR (zp1 rfl (zNSR (zp4 rfl ?_)))
 by_cases hc1 : (decide (x ≥ low)) = true
 ·replace hF := bifT hc1 hF
  exact qC hc1 (t := 10) rfl (qa rfl (zp1 rfl (qa rfl (zp1 rfl (qa rfl (zp3 rfl (qb (qu qc h hF ⟨rfl, trivial⟩))))))))
 replace hc1 := zb hc1
 replace hF := bifF hc1 hF
 exact qB hc1 (t := 10) rfl (zn3 rfl (zp2 rfl (qb (qu qc h hF ⟨rfl, trivial⟩))))

def qgo (_ : Nat) (s cutset : ByteArray) : Option ByteArray :=
 if s.size ≤ 9223372036854775807 ∧ cutset.size < 4294967281 ∧ cutset.data.toList.all (fun b => decide (b.toNat < 128)) = true then some ⟨(Lib.trimS s.data.toList cutset.data.toList).toArray⟩ else none

theorem qkJ {n : Nat} {w : World} {s cutset : ByteArray} {r : ByteArray} (hF : qgo n s cutset = some r) : RetV Tryz.prog 180 [.string s, .string cutset] w r := by
 unfold qgo at hF
 split at hF
 ·rename_i hh
  obtain rfl := qj hF
  refine (Tryz.strings_Trim_any s cutset w hh.1 hh.2.1 hh.2.2).mono ?_
  rintro e w' ⟨rfl, hB⟩
  exact ⟨_, rfl, hB, [.string _], rfl, qqP _ _⟩
 cases hF

def qfi (_ : Nat) (s : ByteArray) (c : (IntK .u8)) : Option Int :=
 some (Lib.indexByte s.data.toList c.val.toNat.toUInt8)

theorem qjg {n : Nat} {w : World} {s : ByteArray} {c : (IntK .u8)} {r : Int} (hF : qfi n s c = some r) : RetV Tryz.prog 181 [.string s, .int .u8 c.val] w r := by
 obtain rfl := qj hF
 refine (Tryz.strings_IndexByte s c.val w).mono ?_
 rintro e w' ⟨rfl, rfl⟩
 exact ⟨_, rfl, Below.refl _ _, [.int .i64 _], rfl, qpT _ _⟩

def qgh (n : Nat) (s : ByteArray) : Option Bool :=
 (qaM n (s.size : Int) 1 8).bind fun r1 =>
 bif r1 then
  (qgo n s (⟨#[97, 98, 99, 100, 101, 102, 103, 104, 105, 106, 107, 108, 109, 110, 111, 112, 113, 114, 115, 116, 117, 118, 119, 120, 121, 122, 48, 49, 50, 51, 52, 53, 54, 55, 56, 57]⟩ : ByteArray)).bind fun r2 =>
  bif (r2.toList == (⟨#[]⟩ : ByteArray).toList) then
   (atS s 0).bind fun y1 =>
   (qfi n (⟨#[97, 98, 99, 100, 101, 102, 103, 104, 105, 106, 107, 108, 109, 110, 111, 112, 113, 114, 115, 116, 117, 118, 119, 120, 121, 122]⟩ : ByteArray) (⟨y1⟩ : IntK .u8)).bind fun r3 =>
   some (decide (r3 ≥ 0))
  else
   some false
 else
  some false

theorem qja {n : Nat} {w : World} {s : ByteArray}  {r : Bool} (hF : qgh n s = some r) : RetV Tryz.prog 170 [.string s] w r := by
 refine qe Tryz.func170 rfl (m := 17) rfl rfl (fun h => ?_)
 rw [qgh] at hF
 refine zSR (zp1 rfl (zNSR (zp2 rfl ?_)))
 obtain ⟨r1, hr1, hF⟩ := qd hF
 refine ql r1 h call100 (qaw hr1) rfl rfl rfl rfl ?_
 intro w1 h
 refine zp1 rfl ?_
 by_cases hc1 : r1 = true
 ·replace hF := bifT hc1 hF
  refine qC hc1 (t := 6) rfl (qa rfl (zp1 rfl (qa rfl ?_)))
  obtain ⟨r2, hr2, hF⟩ := qd hF
  refine qp3 r2 h call180 (qkJ hr2) rfl rfl rfl rfl ?_
  intro w2 h
  refine qa rfl (zp3 rfl ?_)
  by_cases hc2 : (r2.toList == (⟨#[]⟩ : ByteArray).toList) = true
  ·replace hF := bifT hc2 hF
   refine qC hc2 (t := 11) rfl (qa rfl (zp1 rfl (qa rfl ?_)))
   obtain ⟨y1, hx1, hF⟩ := qd hF
   have g1 := qjd hx1
   refine r_v (qjb qc g1 rfl rfl rfl rfl) rfl (qa rfl ?_)
   obtain ⟨r3, hr3, hF⟩ := qd hF
   refine qQ r3 h call181 (qjg hr3) rfl rfl rfl rfl ?_
   intro w3 h
   exact qa rfl (zp3 rfl (qb (qu qc h hF ⟨rfl, trivial⟩)))
  replace hc2 := zb hc2
  replace hF := bifF hc2 hF
  exact qB hc2 (t := 11) rfl (zn4 rfl (zp2 rfl (qb (qu qc h hF ⟨rfl, trivial⟩))))
 replace hc1 := zb hc1
 replace hF := bifF hc1 hF
 refine qB hc1 (t := 6) rfl (zn3 rfl (zp2 rfl (zn4 rfl (zp2 rfl ?_))))
 exact qb (qu qc h hF ⟨rfl, trivial⟩)

def qbw (_ : Nat) (list : (List qaq)) : Option Int :=
 some (list.length : Int)

theorem qgk {n : Nat} {w : World} {list : (List qaq)} {cs1 : List Value} (ha1 : GoT.R w (old w) list cs1) {r : Int} (hF : qbw n list = some r) : RetV Tryz.prog 142 [GoT.v (List qaq) cs1] w r := by
 obtain ⟨p1, k1, rfl, s1⟩ := ha1
 refine qe Tryz.func142 rfl (m := 5) rfl rfl (fun h => ?_)
 rw [qbw] at hF
 exact zSR (zp1 rfl (zNSR (zp3 rfl (qb (qaB qc h hF ⟨rfl, trivial⟩)))))

def qbg (s : (List ByteArray)) (v : ByteArray) : Nat → Int → Option (Flow Int Int)
 | 0, _ => none
 | n + 1, i1 =>
  bif decide (i1 < (s.length : Int)) then
   (idx s i1).bind fun y1 =>
   bif (v.toList == y1.toList) then
    some (.ret i1)
   else
    qbg s v n (W64 (i1 + 1))
  else
   some (.nxt i1)

def qdF (n : Nat) (s : (List ByteArray)) (v : ByteArray) : Option Int :=
 (qbg s v n 0).bind fun o => match o with
 | .ret r => some r
 | .nxt _ =>
  some (-1)

theorem qiN {n : Nat} {w : World} {s : (List ByteArray)} {v : ByteArray} {cs1 : List Value} (ha1 : GoT.R w (old w) s cs1) {r : Int} (hF : qdF n s v = some r) : RetV Tryz.prog 185 [GoT.v (List ByteArray) cs1, .string v] w r := by
 obtain ⟨p1, k1, rfl, s1⟩ := ha1
 refine qe Tryz.func185 rfl (m := 19) rfl rfl (fun h => ?_)
 rw [qdF] at hF
 refine zSR (zp1 rfl (zNSSR (zp3 rfl (qb ?_))))
 obtain ⟨o1, hF, hK1⟩ := qd hF
 refine qz (qT [(0, _), (1, _), (7, _), (8, _)] ⟨rfl, rfl, rfl, rfl, trivial⟩ ?_)
 refine qH (fun m e w' => ∃ (i1 : Int), qbg s v m i1 = some o1 ∧ e = [(0, .slice p1 s.length k1), (1, .string v), (7, .int .i64 (s.length : Int)), (8, .int .i64 i1)] ∧ SH w w' []) n ⟨_, hF, rfl, h⟩ ?_
 rintro m1 e1 w1 ⟨i1, hF, rfl, h⟩
 rcases m1 with _ | m1
 ·rw [qbg] at hF
  cases hF
 rw [qbg] at hF
 refine zSR (zp1 rfl (zNS ?_))
 refine qq rfl hF ?_ ?_ <;> intro hF
 ·refine zKSBSR (zp2 rfl (zNSR (zp2 rfl ?_)))
  refine zp1 rfl ?_
  obtain ⟨y1, hy1, hF⟩ := qd hF
  have he1 := qg hy1
  obtain ⟨b1, o_1, q1, cs2, hp1, hq1, -, hr1, hc2⟩ := s1.at hy1
  obtain rfl := hr1
  refine zxe hp1 hq1 he1 rfl (zc 0 (hc2.below h.below) rfl (zp1 rfl (qb ?_)))
  refine qq rfl hF ?_ ?_ <;> intro hF
  ·refine zSR (zp2 rfl (qb ?_))
   obtain rfl := qj hF; replace hF := hK1
   exact qaB qc h hF ⟨rfl, trivial⟩
  exact zKER (zp2 rfl (qb (qA m1 [(0, _), (1, _), (7, _), (8, _)] (Nat.lt_succ_self m1) ⟨rfl, rfl, rfl, rfl, trivial⟩ ⟨_, hF, rfl, h⟩)))
 refine qI rfl ?_
 obtain rfl := qj hF; replace hF := hK1
 exact zSR (zp1 rfl (qb (qaB qc h hF ⟨rfl, trivial⟩)))

def qcO (n : Nat) (s : (List ByteArray)) (v : ByteArray) : Option Bool :=
 (qdF n s v).bind fun r1 =>
 some (decide (r1 ≥ 0))

theorem qhX {n : Nat} {w : World} {s : (List ByteArray)} {v : ByteArray} {cs1 : List Value} (ha1 : GoT.R w (old w) s cs1) {r : Bool} (hF : qcO n s v = some r) : RetV Tryz.prog 174 [GoT.v (List ByteArray) cs1, .string v] w r := by
 obtain ⟨p1, k1, rfl, s1⟩ := ha1
 refine qe Tryz.func174 rfl (m := 9) rfl rfl (fun h => ?_)
 rw [qcO] at hF
 refine zSR (zp1 rfl (zNSR (zp2 rfl ?_)))
 obtain ⟨r1, hr1, hF⟩ := qd hF
 refine qQ r1 h call185 (qiN ⟨_, _, rfl, (h.oldS s1)⟩ hr1) rfl rfl rfl rfl ?_
 intro w1 h
 exact zp2 rfl (qb (qu qc h hF ⟨rfl, trivial⟩))

def qct (list : (List ByteArray)) : Nat → Int → Option (Flow Bool Int)
 | 0, _ => none
 | n + 1, i1 =>
  bif decide (i1 < (list.length : Int)) then
   (idx list i1).bind fun y1 =>
   (qgh n y1).bind fun r1 =>
   bif (!r1) then
    some (.ret false)
   else
    (subS list 0 i1).bind fun x1 =>
    (qcO n x1 y1).bind fun r2 =>
    bif r2 then
     some (.ret false)
    else
     qct list n (W64 (i1 + 1))
  else
   some (.nxt i1)

def qdd (n : Nat) (list : (List ByteArray)) : Option Bool :=
 (qct list n 0).bind fun o => match o with
 | .ret r => some r
 | .nxt _ =>
  some true

theorem qeB {n : Nat} {w : World} {list : (List ByteArray)} {cs1 : List Value} (ha1 : GoT.R w (old w) list cs1) {r : Bool} (hF : qdd n list = some r) : RetV Tryz.prog 154 [GoT.v (List ByteArray) cs1] w r := by
 obtain ⟨p1, k1, rfl, s1⟩ := ha1
 refine qe Tryz.func154 rfl (m := 23) rfl rfl (fun h => ?_)
 rw [qdd] at hF
 refine zSR (zp1 rfl (zNSSR (zp3 rfl (qb ?_))))
 obtain ⟨o1, hF, hK1⟩ := qd hF
 refine qz (qT [(0, _), (5, _), (6, _), (7, _)] ⟨rfl, rfl, rfl, rfl, trivial⟩ ?_)
 refine qH (fun m e w' => ∃ (i1 : Int), qct list m i1 = some o1 ∧ e = [(0, .slice p1 list.length k1), (5, .slice p1 list.length k1), (6, .int .i64 (list.length : Int)), (7, .int .i64 i1)] ∧ SH w w' []) n ⟨_, hF, rfl, h⟩ ?_
 rintro m1 e1 w1 ⟨i1, hF, rfl, h⟩
 rcases m1 with _ | m1
 ·rw [qct] at hF
  cases hF
 rw [qct] at hF
 refine zSR (zp1 rfl (zNS ?_))
 refine qq rfl hF ?_ ?_ <;> intro hF
 ·refine zKSBSR (zp1 rfl ?_)
  obtain ⟨y1, hy1, hF⟩ := qd hF
  have he1 := qg hy1
  obtain ⟨b1, o_1, q1, cs2, hp1, hq1, -, hr1, hc2⟩ := s1.at hy1
  obtain rfl := hr1
  refine zxe hp1 hq1 he1 rfl (zc 0 (hc2.below h.below) rfl (zp2 rfl (zNSR (zp1 rfl ?_))))
  obtain ⟨r1, hr2, hF⟩ := qd hF
  refine ql r1 h call170 (qja hr2) rfl rfl rfl rfl ?_
  intro w2 h
  refine zp2 rfl ?_
  by_cases hc3 : (!r1) = true
  ·replace hF := bifT hc3 hF
   refine qC hc3 (t := 15) rfl (zn5 rfl (zp1 rfl (qb (qef rfl rfl (zSR (zp1 rfl ?_))))))
   refine qb ?_
   obtain rfl := qj hF; replace hF := hK1
   exact qu qc h hF ⟨rfl, trivial⟩
  replace hc3 := zb hc3
  replace hF := bifF hc3 hF
  refine qB hc3 (t := 15) rfl (qa rfl (zp1 rfl (qa rfl (zp1 rfl (qa rfl ?_)))))
  obtain ⟨x1, hx1, hF⟩ := qd hF
  obtain ⟨p2, k2, hp2, hk1, hl1, g1⟩ := qoa (h.oldS s1) hx1
  refine r_v (qlq qc rfl rfl rfl (qnV g1 rfl) hp2 hk1 hl1 rfl rfl rfl rfl) rfl ?_
  have s2 := qnK s1 hx1 hp2 hk1
  refine qa rfl (zp1 rfl (qa rfl ?_))
  obtain ⟨r2, hr3, hF⟩ := qd hF
  refine ql r2 h call174 (qhX ⟨_, _, rfl, (h.oldS s2)⟩ hr3) rfl rfl rfl rfl ?_
  intro w3 h
  refine zp1 rfl (qb ?_)
  refine qq rfl hF ?_ ?_ <;> intro hF
  ·refine zSR (zp1 rfl (qb ?_))
   obtain rfl := qj hF; replace hF := hK1
   exact qu qc h hF ⟨rfl, trivial⟩
  exact zKER (zp2 rfl (qb (qA m1 [(0, _), (5, _), (6, _), (7, _)] (Nat.lt_succ_self m1) ⟨rfl, rfl, rfl, rfl, trivial⟩ ⟨_, hF, rfl, h⟩)))
 refine qI rfl ?_
 obtain rfl := qj hF; replace hF := hK1
 exact zSR (zp1 rfl (qb (qu qc h hF ⟨rfl, trivial⟩)))

def qbW (list : (List qaq)) : Nat → (List ByteArray) → Int → Option (Flow Bool ((List ByteArray) × Int))
 | 0, _, _ => none
 | n + 1, x1, i1 =>
  bif decide (i1 < (list.length : Int)) then
   (idx list i1).bind fun y1 =>
   (appS x1 ([y1.Name] : List ByteArray)).bind fun x2 =>
   bif (i1 == (W64 ((list.length : Int) - 1))) then
    bif (y1.Dir != 2) then
     some (.ret false)
    else
     bif (y1.Cap != 0) then
      some (.ret false)
     else
      bif y1.Clock then
       some (.ret false)
      else
       qbW list n x2 (W64 (i1 + 1))
   else
    bif (y1.Dir != 1) then
     some (.ret false)
    else
     (qaM n y1.Cap 0 500).bind fun r1 =>
     bif (!r1) then
      some (.ret false)
     else
      qbW list n x2 (W64 (i1 + 1))
  else
   some (.nxt (x1, i1))

def qgy (n : Nat) (list : (List qaq)) : Option Bool :=
 (qbW list n ([] : List ByteArray) 0).bind fun o => match o with
 | .ret r => some r
 | .nxt (x1, _) =>
  (qbw n list).bind fun r2 =>
  (qaM n r2 2 5).bind fun r3 =>
  bif r3 then
   (qdd n x1).bind fun r4 =>
   some r4
  else
   some false

theorem qkY {n : Nat} {w : World} {list : (List qaq)} {cs1 : List Value} (ha1 : GoT.R w (old w) list cs1) {r : Bool} (hF : qgy n list = some r) : RetV Tryz.prog 171 [GoT.v (List qaq) cs1] w r := by
 obtain ⟨p1, k1, rfl, s1⟩ := ha1
 refine qe Tryz.func171 rfl (m := 52) rfl rfl (fun h => ?_)
 rw [qgy] at hF
 refine zSR (zp1 rfl (zNSR (zp1 rfl (zNSSR (zp1 rfl ?_)))))
 refine zp2 rfl (qb ?_)
 replace h := h.nil (α := ByteArray)
 obtain ⟨o1, hF, hK1⟩ := qd hF
 refine qz (qT [(0, _), (3, _), (6, _), (7, _), (8, _)] ⟨rfl, rfl, rfl, rfl, rfl, trivial⟩ ?_)
 refine qH (fun m e w' => ∃ (S1 : Nat → Prop) (p2 : Option Addr) (ln1 : Nat) (k2 : Nat) (x1 : (List ByteArray)) (i1 : Int), qbW list m x1 i1 = some o1 ∧ e = [(0, .slice p1 list.length k1), (3, .slice p2 ln1 k2), (6, .slice p1 list.length k1), (7, .int .i64 (list.length : Int)), (8, .int .i64 i1)] ∧ SH w w' [Ch.own S1 (x1 : List ByteArray) [.slice p2 ln1 k2]]) n ⟨_, _, _, _, _, _, hF, rfl, h⟩ ?_
 rintro m1 e1 w1 ⟨S1, p2, ln1, k2, x1, i1, hF, rfl, h⟩
 obtain rfl := (h.sl 0 rfl).2
 rcases m1 with _ | m1
 ·rw [qbW] at hF
  cases hF
 rw [qbW] at hF
 refine zSR (zp1 rfl (zNS ?_))
 refine qq rfl hF ?_ ?_ <;> intro hF
 ·refine zKSBSR (zp1 rfl ?_)
  obtain ⟨y1, hy1, hF⟩ := qd hF
  have he1 := qg hy1
  obtain ⟨b1, o_1, q1, cs2, hp1, hq1, -, hr1, hc2⟩ := s1.at hy1
  obtain rfl := qbq hr1
  refine zxe hp1 hq1 he1 rfl (zc 0 (hc2.below h.below) rfl (qU qc h rfl rfl rfl ?_))
  intro w2 bb1 h
  refine zp1 rfl (zs 0 h rfl ?_)
  intro w3 h
  replace h : SH _ _ [Ch.box bb1 [.string y1.Name, .int .i64 y1.Dir, .int .i64 y1.Cap, .bool y1.Clock] 199, Ch.own S1 (x1 : List ByteArray) [.slice p2 x1.length k2]] := h
  refine zNSR (zp2 rfl (zl 0 0 h rfl (qaP qc [.tmp 15] _ ([y1.Name] : List ByteArray) h rfl rfl rfl rfl rfl rfl rfl rfl rfl ⟨rfl, trivial⟩ rfl ?_)))
  intro w4 p3 S2 h
  obtain ⟨x2, hx1, hF⟩ := qd hF
  obtain ⟨g1, hx1⟩ := qbr hx1
  refine qeq qc 2 h rfl (h.sl 0 rfl).1 (h.sl 0 rfl).2 rfl rfl rfl rfl rfl rfl rfl rfl rfl g1 hx1 rfl ?_
  intro w5 p4 k3 S3 h
  refine zp1 rfl (zNSR (zp5 rfl (qb ?_)))
  refine qq rfl hF ?_ ?_ <;> intro hF
  ·refine zSR (zp1 rfl (zl 1 1 h rfl (zp2 rfl ?_)))
   by_cases hc4 : (y1.Dir != 2) = true
   ·replace hF := bifT hc4 hF
    refine qC hc4 (t := 26) rfl (zn3 rfl (zp2 rfl (zn2 rfl (zp1 rfl (qb (qef rfl rfl (qbn ?_)))))))
    refine qE (zp1 rfl (qb ?_))
    obtain rfl := qj hF; replace hF := hK1
    exact qu qc h hF ⟨rfl, trivial⟩
   replace hc4 := zb hc4
   replace hF := bifF hc4 hF
   refine qB hc4 (t := 26) rfl (qa rfl (zp1 rfl (qa rfl (zl 1 2 h rfl (qa rfl (zp3 rfl ?_))))))
   by_cases hc5 : (y1.Cap != 0) = true
   ·replace hF := bifT hc5 hF
    refine qC hc5 (t := 31) rfl (zn2 rfl (zp1 rfl (qb (qef rfl rfl (zSR (zp1 rfl (qb ?_)))))))
    obtain rfl := qj hF; replace hF := hK1
    exact qu qc h hF ⟨rfl, trivial⟩
   replace hc5 := zb hc5
   replace hF := bifF hc5 hF
   refine qB hc5 (t := 31) rfl (qa rfl (zp1 rfl (qa rfl (zl 1 3 h rfl (zp1 rfl (qb ?_))))))
   refine qq rfl hF ?_ ?_ <;> intro hF
   ·refine zSR (zp1 rfl (qb ?_))
    obtain rfl := qj hF; replace hF := hK1
    exact qu qc h hF ⟨rfl, trivial⟩
   refine zKER (zp2 rfl (qb ?_))
   replace h := h.pick [2] rfl
   exact qA m1 [(0, _), (3, _), (6, _), (7, _), (8, _)] (Nat.lt_succ_self m1) ⟨rfl, rfl, rfl, rfl, rfl, trivial⟩ ⟨_, _, _, _, _, _, hF, rfl, h⟩
  refine zSR (zp1 rfl (zl 1 1 h rfl (zp2 rfl ?_)))
  by_cases hc7 : (y1.Dir != 1) = true
  ·replace hF := bifT hc7 hF
   refine qC hc7 (t := 38) rfl (zn4 rfl (zp1 rfl (qb (qef rfl rfl (zSR (zp1 rfl (qb ?_)))))))
   obtain rfl := qj hF; replace hF := hK1
   exact qu qc h hF ⟨rfl, trivial⟩
  replace hc7 := zb hc7
  replace hF := bifF hc7 hF
  refine qB hc7 (t := 38) rfl (qa rfl (zp1 rfl (qa rfl (zl 1 2 h rfl (qa rfl ?_)))))
  obtain ⟨r1, hr2, hF⟩ := qd hF
  refine ql r1 h call100 (qaw hr2) rfl rfl rfl rfl ?_
  intro w6 h
  refine qa rfl (zp2 rfl (qb ?_))
  refine qq rfl hF ?_ ?_ <;> intro hF
  ·refine zSR (zp1 rfl (qb ?_))
   obtain rfl := qj hF; replace hF := hK1
   exact qu qc h hF ⟨rfl, trivial⟩
  refine zKER (zp2 rfl (qb ?_))
  replace h := h.pick [2] rfl
  exact qA m1 [(0, _), (3, _), (6, _), (7, _), (8, _)] (Nat.lt_succ_self m1) ⟨rfl, rfl, rfl, rfl, rfl, trivial⟩ ⟨_, _, _, _, _, _, hF, rfl, h⟩
 refine qI rfl ?_
 obtain rfl := qj hF; replace hF := hK1
 refine zSR (zp1 rfl ?_)
 obtain ⟨r2, hr3, hF⟩ := qd hF
 refine qQ r2 h call142 (qgk ⟨_, _, rfl, (h.oldS s1)⟩ hr3) rfl rfl rfl rfl ?_
 intro w7 h
 obtain ⟨r3, hr4, hF⟩ := qd hF
 refine ql r3 h call100 (qaw hr4) rfl rfl rfl rfl ?_
 intro w8 h
 refine zp1 rfl ?_
 by_cases hc9 : r3 = true
 ·replace hF := bifT hc9 hF
  refine qC hc9 (t := 48) rfl (qa rfl (zp1 rfl (qa rfl ?_)))
  obtain ⟨r4, hr5, hF⟩ := qd hF
  refine ql r4 h call154 (qeB (h.own 0 rfl) hr5) rfl rfl rfl rfl ?_
  intro w9 h
  exact zp2 rfl (qb (qu qc h hF ⟨rfl, trivial⟩))
 replace hc9 := zb hc9
 replace hF := bifF hc9 hF
 exact qB hc9 (t := 48) rfl (zn2 rfl (zp2 rfl (qb (qu qc h hF ⟨rfl, trivial⟩))))

def qb4 (n : Nat) (c : qD) : Option Int :=
 (qbw n c.Pins).bind fun r1 =>
 some (W64 (r1 - 1))

theorem qev {n : Nat} {w : World} {c : qD} {cs1 : List Value} (ha1 : GoT.R w (old w) c cs1) {r : Int} (hF : qb4 n c = some r) : RetV Tryz.prog 106 [GoT.v qD cs1] w r := by
 obtain ⟨p1, k1, p2, k2, p3, k3, rfl, s1, s2, s3⟩ := qV ha1
 refine qe Tryz.func106 rfl (m := 7) rfl rfl (fun h => ?_)
 rw [qb4] at hF
 refine zSR (qM h rfl rfl ?_)
 intro w1 bb1 h
 refine zp1 rfl (zNSR (zp1 rfl (zl 0 2 h rfl ?_)))
 obtain ⟨r1, hr1, hF⟩ := qd hF
 refine qQ r1 h call142 (qgk ⟨_, _, rfl, (h.oldS s1)⟩ hr1) rfl rfl rfl rfl ?_
 intro w2 h
 exact zp2 rfl (qb (qaB qc h hF ⟨rfl, trivial⟩))

def qgu (_ : Nat) (kind : Int) : Option Bool :=
 bif (kind == 4) then
  some true
 else
  some (kind == 5)

theorem qk2 {n : Nat} {w : World} {kind : Int}  {r : Bool} (hF : qgu n kind = some r) : RetV Tryz.prog 198 [.int .i64 kind] w r := by
 refine qe Tryz.func198 rfl (m := 9) rfl rfl (fun h => ?_)
 rw [qgu] at hF
 refine zSR (zp1 rfl (zNSR (zp3 rfl ?_)))
 by_cases hc1 : (kind == 4) = true
 ·replace hF := bifT hc1 hF
  exact qC hc1 (t := 5) rfl (zn2 rfl (zp2 rfl (qb (qu qc h hF ⟨rfl, trivial⟩))))
 replace hc1 := zb hc1
 replace hF := bifF hc1 hF
 exact qB hc1 (t := 5) rfl (qa rfl (zp1 rfl (qa rfl (zp3 rfl (qb (qu qc h hF ⟨rfl, trivial⟩))))))

def qey (n : Nat) (a_n : Int) (v0 : Int) (v1 : Int) : Option Bool :=
 (qaM n a_n v0 v1).bind fun r1 =>
 some (!r1)

theorem qjw {n : Nat} {w : World} {a_n : Int} {v0 : Int} {v1 : Int} {p1 : Option Addr} (ha1 : GoT.R w (old w) (some v0) [.pointer p1]) {p2 : Option Addr} (ha2 : GoT.R w (old w) (some v1) [.pointer p2]) {r : Bool} (hF : qey n a_n v0 v1 = some r) : RetV Tryz.prog 137 [.int .i64 a_n, .pointer p1, .pointer p2] w r := by
 obtain ⟨b1, o_1, cs1, rfl, -, hr1, hc1⟩ := PtR.get ha1 rfl
 obtain rfl := hr1
 obtain ⟨b2, o_2, cs2, rfl, -, hr2, hc2⟩ := PtR.get ha2 rfl
 obtain rfl := hr2
 refine qe Tryz.func137 rfl (m := 10) rfl rfl (fun h => ?_)
 rw [qey] at hF
 refine zSR (zp1 rfl (zNSR (zp1 rfl (zc 0 (hc1.below h.below) rfl (zc 0 (hc2.below h.below) rfl ?_)))))
 obtain ⟨r1, hr3, hF⟩ := qd hF
 refine ql r1 h call100 (qaw hr3) rfl rfl rfl rfl ?_
 intro w1 h
 exact zp2 rfl (qb (qu qc h hF ⟨rfl, trivial⟩))

def qP (s : (List Int)) (f_0 : Int) (f_1 : Int) : Nat → Int → Option (Flow Int Int)
 | 0, _ => none
 | n + 1, i1 =>
  bif decide (i1 < (s.length : Int)) then
   (idx s i1).bind fun y1 =>
   (qey n y1 f_0 f_1).bind fun r1 =>
   bif r1 then
    some (.ret i1)
   else
    qP s f_0 f_1 n (W64 (i1 + 1))
  else
   some (.nxt i1)

def qaC (n : Nat) (s : (List Int)) (f_0 : Int) (f_1 : Int) : Option Int :=
 (qP s f_0 f_1 n 0).bind fun o => match o with
 | .ret r => some r
 | .nxt _ =>
  some (-1)

theorem qeU {n : Nat} {w : World} {s : (List Int)} {f_0 : Int} {f_1 : Int} {cs1 : List Value} (ha1 : GoT.R w (old w) s cs1) {p2 : Option Addr} (ha2 : GoT.R w (old w) (some f_0) [.pointer p2]) {p3 : Option Addr} (ha3 : GoT.R w (old w) (some f_1) [.pointer p3]) {r : Int} (hF : qaC n s f_0 f_1 = some r) : RetV Tryz.prog 159 [GoT.v (List Int) cs1, .func (.func 137) #[] #[.pointer p2, .pointer p3]] w r := by
 obtain ⟨p1, k1, rfl, s1⟩ := ha1
 obtain ⟨b1, o_1, cs2, rfl, -, hr1, hc1⟩ := PtR.get ha2 rfl
 obtain rfl := hr1
 obtain ⟨b2, o_2, cs3, rfl, -, hr2, hc2⟩ := PtR.get ha3 rfl
 obtain rfl := hr2
 refine qe Tryz.func159 rfl (m := 19) rfl rfl (fun h => ?_)
 rw [qaC] at hF
 refine zSR (zp1 rfl (zNSSR (zp3 rfl (qb ?_))))
 obtain ⟨o1, hF, hK1⟩ := qd hF
 refine qz (qT [(0, _), (1, _), (7, _), (8, _)] ⟨rfl, rfl, rfl, rfl, trivial⟩ ?_)
 refine qH (fun m e w' => ∃ (i1 : Int), qP s f_0 f_1 m i1 = some o1 ∧ e = [(0, .slice p1 s.length k1), (1, .func (.func 137) #[] #[.pointer (some ⟨b1, o_1, none⟩), .pointer (some ⟨b2, o_2, none⟩)]), (7, .int .i64 (s.length : Int)), (8, .int .i64 i1)] ∧ SH w w' []) n ⟨_, hF, rfl, h⟩ ?_
 rintro m1 e1 w1 ⟨i1, hF, rfl, h⟩
 rcases m1 with _ | m1
 ·rw [qP] at hF
  cases hF
 rw [qP] at hF
 refine zSR (zp1 rfl (zNS ?_))
 refine qq rfl hF ?_ ?_ <;> intro hF
 ·refine zKSBSR (zp2 rfl (zNSR (zp2 rfl ?_)))
  refine zp1 rfl ?_
  obtain ⟨y1, hy1, hF⟩ := qd hF
  have he1 := qg hy1
  obtain ⟨b3, o_3, q1, cs4, hp1, hq1, -, hr3, hc4⟩ := s1.at hy1
  obtain rfl := hr3
  refine zxe hp1 hq1 he1 rfl (zc 0 (hc4.below h.below) rfl ?_)
  obtain ⟨r1, hr4, hF⟩ := qd hF
  refine ql r1 h call137 (qjw (h.old ha2) (h.old ha3) hr4) rfl rfl rfl rfl ?_
  intro w2 h
  refine qb ?_
  refine qq rfl hF ?_ ?_ <;> intro hF
  ·refine zSR (zp2 rfl (qb ?_))
   obtain rfl := qj hF; replace hF := hK1
   exact qaB qc h hF ⟨rfl, trivial⟩
  exact zKER (zp2 rfl (qb (qA m1 [(0, _), (1, _), (7, _), (8, _)] (Nat.lt_succ_self m1) ⟨rfl, rfl, rfl, rfl, trivial⟩ ⟨_, hF, rfl, h⟩)))
 refine qI rfl ?_
 obtain rfl := qj hF; replace hF := hK1
 exact zSR (zp1 rfl (qb (qaB qc h hF ⟨rfl, trivial⟩)))

def qaR (n : Nat) (s : (List Int)) (f_0 : Int) (f_1 : Int) : Option Bool :=
 (qaC n s f_0 f_1).bind fun r1 =>
 some (decide (r1 ≥ 0))

theorem qet {n : Nat} {w : World} {s : (List Int)} {f_0 : Int} {f_1 : Int} {cs1 : List Value} (ha1 : GoT.R w (old w) s cs1) {p2 : Option Addr} (ha2 : GoT.R w (old w) (some f_0) [.pointer p2]) {p3 : Option Addr} (ha3 : GoT.R w (old w) (some f_1) [.pointer p3]) {r : Bool} (hF : qaR n s f_0 f_1 = some r) : RetV Tryz.prog 136 [GoT.v (List Int) cs1, .func (.func 137) #[] #[.pointer p2, .pointer p3]] w r := by
 obtain ⟨p1, k1, rfl, s1⟩ := ha1
 obtain ⟨b1, o_1, cs2, rfl, -, hr1, hc1⟩ := PtR.get ha2 rfl
 obtain rfl := hr1
 obtain ⟨b2, o_2, cs3, rfl, -, hr2, hc2⟩ := PtR.get ha3 rfl
 obtain rfl := hr2
 refine qe Tryz.func136 rfl (m := 9) rfl rfl (fun h => ?_)
 rw [qaR] at hF
 refine zSR (zp1 rfl (zNSR (zp2 rfl ?_)))
 obtain ⟨r1, hr3, hF⟩ := qd hF
 refine qQ r1 h call159 (qeU ⟨_, _, rfl, (h.oldS s1)⟩ (h.old ha2) (h.old ha3) hr3) rfl rfl rfl rfl ?_
 intro w1 h
 exact zp2 rfl (qb (qu qc h hF ⟨rfl, trivial⟩))

def qbs (n : Nat) (list : (List Int)) (low : Int) (high : Int) : Option Bool :=
 (qaR n list low high).bind fun r1 =>
 some (!r1)

theorem qb9 {n : Nat} {w : World} {list : (List Int)} {low : Int} {high : Int} {cs1 : List Value} (ha1 : GoT.R w (old w) list cs1) {r : Bool} (hF : qbs n list low high = some r) : RetV Tryz.prog 82 [GoT.v (List Int) cs1, .int .i64 low, .int .i64 high] w r := by
 obtain ⟨p1, k1, rfl, s1⟩ := ha1
 refine qe Tryz.func82 rfl (m := 11) rfl rfl (fun h => ?_)
 rw [qbs] at hF
 refine zSR (qM h rfl rfl ?_)
 intro w1 bb1 h
 refine qM h rfl rfl ?_
 intro w2 bb2 h
 refine zp1 rfl (zNSR (zp2 rfl ?_))
 obtain ⟨r1, hr1, hF⟩ := qd hF
 refine ql r1 h call136 (qet ⟨_, _, rfl, (h.oldS s1)⟩ (qhJ (x := low) 1 h rfl rfl) (qhJ (x := high) 0 h rfl rfl) hr1) rfl rfl rfl rfl ?_
 intro w3 h
 exact zp2 rfl (qb (qu qc h hF ⟨rfl, trivial⟩))

def qah (_ : Nat) (list : (List Int)) : Option Int :=
 some (list.length : Int)

theorem qbe {n : Nat} {w : World} {list : (List Int)} {cs1 : List Value} (ha1 : GoT.R w (old w) list cs1) {r : Int} (hF : qah n list = some r) : RetV Tryz.prog 79 [GoT.v (List Int) cs1] w r := by
 obtain ⟨p1, k1, rfl, s1⟩ := ha1
 refine qe Tryz.func79 rfl (m := 5) rfl rfl (fun h => ?_)
 rw [qah] at hF
 exact zSR (zp1 rfl (zNSR (zp3 rfl (qb (qaB qc h hF ⟨rfl, trivial⟩)))))

def qaU (list : (List Int)) : Nat → Int → Option (Flow Bool Int)
 | 0, _ => none
 | n + 1, i1 =>
  bif decide (i1 < (list.length : Int)) then
   (idx list (W64 (i1 - 1))).bind fun y1 =>
   (idx list i1).bind fun y2 =>
   bif decide (y1 ≥ y2) then
    some (.ret false)
   else
    qaU list n (W64 (i1 + 1))
  else
   some (.nxt i1)

def qcI (n : Nat) (list : (List Int)) : Option Bool :=
 (qaU list n 1).bind fun o => match o with
 | .ret r => some r
 | .nxt _ =>
  some true

theorem qfv {n : Nat} {w : World} {list : (List Int)} {cs1 : List Value} (ha1 : GoT.R w (old w) list cs1) {r : Bool} (hF : qcI n list = some r) : RetV Tryz.prog 85 [GoT.v (List Int) cs1] w r := by
 obtain ⟨p1, k1, rfl, s1⟩ := ha1
 refine qe Tryz.func85 rfl (m := 20) rfl rfl (fun h => ?_)
 rw [qcI] at hF
 refine zSR (zp1 rfl (zNSSR (zp1 rfl (qb ?_))))
 obtain ⟨o1, hF, hK1⟩ := qd hF
 refine qz (qT [(0, _), (3, _)] ⟨rfl, rfl, trivial⟩ ?_)
 refine qH (fun m e w' => ∃ (i1 : Int), qaU list m i1 = some o1 ∧ e = [(0, .slice p1 list.length k1), (3, .int .i64 i1)] ∧ SH w w' []) n ⟨_, hF, rfl, h⟩ ?_
 rintro m1 e1 w1 ⟨i1, hF, rfl, h⟩
 rcases m1 with _ | m1
 ·rw [qaU] at hF
  cases hF
 rw [qaU] at hF
 refine zSSR (zp4 rfl (qb ?_))
 refine qq rfl hF ?_ ?_ <;> intro hF
 ·refine zKSB (qbn ?_)
  refine qco rfl (by kernel_rfl) ?_
  refine zd3 rfl ?_
  obtain ⟨y1, hy1, hF⟩ := qd hF
  have he1 := qg hy1
  obtain ⟨b1, o_1, q1, cs2, hp1, hq1, -, hr1, hc2⟩ := s1.at hy1
  obtain rfl := hr1
  refine zdxe hp1 hq1 he1 rfl ?_
  refine zdc 0 (hc2.below h.below) rfl ?_
  refine zd2 rfl ?_
  obtain ⟨y2, hy2, hF⟩ := qd hF
  have he2 := qg hy2
  obtain ⟨b2, o_2, q2, cs3, hp2, hq2, -, hr2, hc3⟩ := s1.at hy2
  obtain rfl := hr2
  refine zdxe hp2 hq2 he2 rfl ?_
  refine zdc 0 (hc3.below h.below) rfl ?_
  refine zd1 rfl ?_
  refine qaX (fun w2 hb => ?_)
  replace h := h.ext hb
  clear hb
  refine qq rfl hF ?_ ?_ <;> intro hF
  ·refine zSR (zp1 rfl (qb ?_))
   obtain rfl := qj hF; replace hF := hK1
   exact qu qc h hF ⟨rfl, trivial⟩
  exact zKER (zp3 rfl (qb (qA m1 [(0, _), (3, _)] (Nat.lt_succ_self m1) ⟨rfl, rfl, trivial⟩ ⟨_, hF, rfl, h⟩)))
 refine qI rfl ?_
 obtain rfl := qj hF; replace hF := hK1
 exact zSR (zp1 rfl (qb (qu qc h hF ⟨rfl, trivial⟩)))

def qgm (n : Nat) (list : (List Int)) : Option Bool :=
 (qah n list).bind fun r1 =>
 (qaM n r1 1 4).bind fun r2 =>
 bif r2 then
  (qbs n list 0 100000).bind fun r3 =>
  bif r3 then
   (qcI n list).bind fun r4 =>
   some r4
  else
   some false
 else
  some false

theorem qjc {n : Nat} {w : World} {list : (List Int)} {cs1 : List Value} (ha1 : GoT.R w (old w) list cs1) {r : Bool} (hF : qgm n list = some r) : RetV Tryz.prog 221 [GoT.v (List Int) cs1] w r := by
 obtain ⟨p1, k1, rfl, s1⟩ := ha1
 refine qe Tryz.func221 rfl (m := 14) rfl rfl (fun h => ?_)
 rw [qgm] at hF
 refine zSR (zp1 rfl (zNSR (zp1 rfl ?_)))
 obtain ⟨r1, hr1, hF⟩ := qd hF
 refine qQ r1 h call79 (qbe ⟨_, _, rfl, (h.oldS s1)⟩ hr1) rfl rfl rfl rfl ?_
 intro w1 h
 obtain ⟨r2, hr2, hF⟩ := qd hF
 refine ql r2 h call100 (qaw hr2) rfl rfl rfl rfl ?_
 intro w2 h
 refine zp1 rfl ?_
 by_cases hc1 : r2 = true
 ·replace hF := bifT hc1 hF
  refine qC hc1 (t := 6) rfl (qa rfl (zp1 rfl (qa rfl ?_)))
  obtain ⟨r3, hr3, hF⟩ := qd hF
  refine ql r3 h call82 (qb9 ⟨_, _, rfl, (h.oldS s1)⟩ hr3) rfl rfl rfl rfl ?_
  intro w3 h
  refine zp2 rfl ?_
  by_cases hc2 : r3 = true
  ·replace hF := bifT hc2 hF
   refine qC hc2 (t := 10) rfl (qa rfl (zp1 rfl (qa rfl ?_)))
   obtain ⟨r4, hr4, hF⟩ := qd hF
   refine ql r4 h call85 (qfv ⟨_, _, rfl, (h.oldS s1)⟩ hr4) rfl rfl rfl rfl ?_
   intro w4 h
   exact zp2 rfl (qb (qu qc h hF ⟨rfl, trivial⟩))
  replace hc2 := zb hc2
  replace hF := bifF hc2 hF
  exact qB hc2 (t := 10) rfl (zn2 rfl (zp2 rfl (qb (qu qc h hF ⟨rfl, trivial⟩))))
 replace hc1 := zb hc1
 replace hF := bifF hc1 hF
 exact qB hc1 (t := 6) rfl (zn2 rfl (zp2 rfl (zn2 rfl (zp2 rfl (qb (qu qc h hF ⟨rfl, trivial⟩))))))

end Go.Fw
